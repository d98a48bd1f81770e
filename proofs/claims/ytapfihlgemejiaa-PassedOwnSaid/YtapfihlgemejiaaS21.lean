/- gnomonmem: no list shows in another: the lists of bytes, the lists of numbers. -/
import Derived.Test.YtapfihlgemejiaaS22
namespace Go.Proofs.Ytapfihlgemejiaa
open Go.RowKit

theorem BookAt.keep {base pb : Nat} {w w' : World} {vb vi : Value} {bs is : List Value} (h : BookAt base w pb vb vi bs is) {S : TypeId → Prop} (hk : KeepsBut S w w') (h1 : ¬ S 65) (h2 : ¬ S 30) (h3 : ¬ S 25) : BookAt base w' pb vb vi bs is :=
  ⟨hk.row h.row h1, h.low, hk.own h.b h2, hk.own h.i h3⟩
/-- What a walk reads of the list at i. -/
theorem own_get {w : World} {base e : Nat} {v : Value} {bs : List Value} (h : w.ownsRow base e 1 v bs.length bs) {i : Nat} {u : Value} (hi : bs[i]? = some u) :
    ∃ g c, v = .slice (some ⟨g, 0, none⟩) bs.length c ∧ base ≤ g ∧ g < w.heap.size ∧ w.cell? ⟨g, i, none⟩ = some u := by
  obtain ⟨A, c, rfl⟩ := own_form h
  obtain ⟨g, rfl, hb, hg, hc, _⟩ := own_cell h (by have := (List.getElem?_eq_some_iff.1 hi).1; omega)
  exact ⟨g, c, rfl, hb, hg, hc i u hi⟩

def mkInts (i : Nat) : Int := -9000 - (i : Int)
set_option maxRecDepth 100000 in
set_option maxHeartbeats 4000000 in
theorem aloneInts_any {base pb : Nat} {vb vi : Value} {bs is : List Value} {ys : Nat → List Int} (w : World) (h : BookAt base w pb vb vi bs is) (hf : Fam base w 3 .i64 is ys) (hlen : ∀ i, (ys i).length ≤ 4096)
    (hm : is.length ≤ 100000) (hb : base ≤ w.heap.size) :
    Calls Try.prog 94 #[.pointer (some ⟨pb, 0, none⟩)] w fun e w' => e = .returned (.bool true) ∧ KeepsBut (fun t => t = 3) w w' ∧ Below base w w' := by
  have H := Lib.hid h
  have hbook : ∀ w', KeepsBut (fun t => t = 3) w w' → BookAt base w' pb vb vi bs is := fun w' hk => h.keep hk (by decide) (by decide) (by decide)
  have HB := Lib.hid hbook
  obtain ⟨B0, c0, hv0⟩ := own_form h.i
  have hnil : is.length = 0 ∨ ∃ g, B0 = some ⟨g, 0, none⟩ := by
    by_cases h0 : is.length = 0
    · exact .inl h0
    · rw [hv0] at h
      obtain ⟨g, hg, _⟩ := own_cell h.i (by omega)
      exact .inr ⟨g, hg⟩
  clear h hbook
  go_enter Try.func94, Try.ntmps94
  go_wp2_with fail
  go_loopw [3] (fun ci wr => ∃ i : Nat, i ≤ is.length ∧ ci = .int .i64 i ∧ ∃ zs : Nat → List Int, (∀ t, (zs t).length = (ys t).length) ∧ (∀ t, t < i → zs t = List.replicate (ys t).length (mkInts t)) ∧
      Fam base wr 3 .i64 is zs ∧ KeepsBut (fun t => t = 3) w wr ∧ Below base w wr)
    (fun cn _ => is.length - (intOf cn).toNat)
  case atStart => exact ⟨0, by omega, rfl, ys, fun _ => rfl, (fun t ht => by omega), hf, KeepsBut.refl _ _, Below.refl _ _⟩
  case round =>
    obtain ⟨i, hi, rfl, zs, hzl, hzd, hfz, hkp, hbl⟩ := hrel
    clear hf
    have hbk := HB.out wr hkp
    have hpb := hbk.row.lt
    have hc0 := hbk.row.cell 2
    simp only [bookRow, List.getElem?_cons_succ, List.getElem?_cons_zero] at hc0
    rw [hv0] at hc0
    have HZD := Lib.hid hzd
    have HZL := Lib.hid hzl
    clear hzd hzl
    by_cases hlt : i < is.length
    · have hii : (i : Int) < is.length := by omega
      obtain ⟨v, hv⟩ : ∃ v, is[i]? = some v := ⟨is[i], List.getElem?_eq_getElem hlt⟩
      obtain ⟨A, cc, hva⟩ := own_form (hfz.own i v hv)
      rw [HZL.out i] at hva
      subst hva
      obtain ⟨gb, c', hvb, _, hgb, _⟩ := own_get hbk.i hv
      rw [hv0] at hvb
      injection hvb with hB0 _ hc0'
      subst hB0
      subst hc0'
      have hni := hlen i
      clear hbk hnil
      go_wp2_with fail
      go_loopw [4] (fun ck wr => ∃ q : Nat, q ≤ (ys i).length ∧ ck = .int .i64 q ∧ ∃ zs : Nat → List Int, (∀ t, (zs t).length = (ys t).length) ∧ (∀ t, t < i → zs t = List.replicate (ys t).length (mkInts t)) ∧
          (∀ j, j < q → gt (zs i) j = mkInts i) ∧ Fam base wr 3 .i64 is zs ∧ KeepsBut (fun t => t = 3) w wr ∧ Below base w wr)
        (fun cn _ => (ys i).length - (intOf cn).toNat)
      case atStart => exact ⟨0, by omega, rfl, zs, HZL.out, HZD.out, (fun j hj => by omega), hfz, hkp, hbl⟩
      case round =>
        obtain ⟨q, hq, rfl, zs, hzl, hzd, hzq, hfz, hkp, hbl⟩ := hrel
        have hbk := HB.out wr hkp
        have hpb := hbk.row.lt
        have hc0 := hbk.row.cell 2
        simp only [bookRow, List.getElem?_cons_succ, List.getElem?_cons_zero] at hc0
        rw [hv0] at hc0
        obtain ⟨gb', c', hvb, _, hgb, hcv⟩ := own_get hbk.i hv
        rw [hv0] at hvb
        injection hvb with hB0 _ hc0'
        injection hB0 with hB0
        injection hB0 with hB0
        subst hB0
        clear hc0' hbk
        by_cases hqt : q < (ys i).length
        · have hqq : (q : Int) < (ys i).length := by omega
          have hown := hfz.own i _ hv
          rw [hzl i] at hown
          obtain ⟨g, rfl, hbg, hg, hcc, hff⟩ := own_cell hown (by rw [List.length_map, hzl i]; omega)
          have hqz : q < (zs i).length := by rw [hzl i]; exact hqt
          have hcq := hcc q (.int .i64 (gt (zs i) q)) (by simp [gt, hqz])
          have hfq := hff q
          have hset := hfz.set (i := i) (g := g) (c := cc) (by rw [hzl i]; exact hv) q (mkInts i)
          have hks : KeepsBut (fun t => t = 3) w (wr.setCell ⟨g, q, none⟩ (.int .i64 (mkInts i))) := hkp.trans (by
            obtain ⟨_, cur, hcur⟩ := own_row hown (g := g) rfl
            intro b cs t fr hb2 ht
            exact heap_setCell_other wr ⟨g, q, none⟩ b _ (fun e => by
              have e : b = g := e
              subst e
              rw [hcur] at hb2
              simp only [Option.some.injEq, Obj.cells.injEq] at hb2
              exact ht hb2.2.1.symm))
          have hbs := hbl.setCell (p := ⟨g, q, none⟩) hbg (.int .i64 (mkInts i))
          have hz1 : ∀ t, (if t = i then (zs i).set q (mkInts i) else zs t).length = (ys t).length := fun t => by
            split
            · rename_i h0; subst h0; rw [List.length_set]; exact hzl _
            · exact hzl t
          have hz2 : ∀ t, t < i → (if t = i then (zs i).set q (mkInts i) else zs t) = List.replicate (ys t).length (mkInts t) := fun t ht => by
            rw [if_neg (by omega)]; exact hzd t ht
          have hz3 : ∀ j, j < q + 1 → gt (if i = i then (zs i).set q (mkInts i) else zs i) j = mkInts i := fun j hj => by
            rw [if_pos rfl]
            have e : gt ((zs i).set q (mkInts i)) j = if j = q then mkInts i else gt (zs i) j := gt_st (zs i) q j _ hqz
            rw [e]
            split
            · rfl
            · exact hzq j (by omega)
          have HS := Lib.hid hset
          have HKS := Lib.hid hks
          have HBS := Lib.hid hbs
          have HZ1 := Lib.hid hz1
          have HZ2 := Lib.hid hz2
          have HZ3 := Lib.hid hz3
          clear hset hks hbs hz1 hz2 hz3 hown hcc hff hfz hzd hzq hkp hbl
          generalize gt (zs i) q = old at *
          go_wp2_with fail
          exact ⟨⟨q + 1, by omega, by go_num, _, HZ1.out, HZ2.out, HZ3.out, HS.out, HKS.out, HBS.out⟩, by simp [intOf]; omega⟩
        · have hqe : q = (ys i).length := by omega
          subst hqe
          have hdone : zs i = List.replicate (ys i).length (mkInts i) := fill_done (hzl i) hzq
          have hz2 : ∀ t, t < i + 1 → zs t = List.replicate (ys t).length (mkInts t) := fun t ht => by
            by_cases h0 : t = i
            · subst h0; exact hdone
            · exact hzd t (by omega)
          have HZ1 := Lib.hid hzl
          have HZ2 := Lib.hid hz2
          have HF := Lib.hid hfz
          clear hzl hzd hzq hdone hz2 hfz
          go_wp2_with fail
          exact ⟨⟨i + 1, by omega, by go_num, zs, HZ1.out, HZ2.out, HF.out, hkp, hbl⟩, by simp [intOf]; omega⟩
    · have hie : i = is.length := by omega
      subst hie
      have hapart := hfz.apart
      have hrest : ∀ (t : Nat) (v : Value), is[t]? = some v → wr.ownsRow base 3 1 v (ys t).length (reps .i64 (ys t).length (mkInts t)) := fun t v hv => by
        have h1 := hfz.own t v hv
        rw [HZD.out t (List.getElem?_eq_some_iff.1 hv).1, List.length_replicate] at h1
        exact h1
      have HFORM := Lib.hid (fun (t : Nat) (v : Value) (hv : is[t]? = some v) => own_form (hrest t v hv))
      obtain ⟨i0, hi0, hz0, hz1, hz2⟩ := info_parts infoOf25
      obtain ⟨j0, hj0, hy0, hy1, hy2⟩ := info_parts infoOf3
      clear hfz hbk HZD HZL
      go_wp2_with fail
      clear hpb hc0
      go_loopw [6, 5] (fun ci ca wr => ∃ i : Nat, i ≤ is.length ∧ ci = .int .i64 i ∧ ∃ gs : List Value, gs.length = i ∧ wr.ownsRow w.heap.size 25 1 ca gs.length gs ∧
          (∀ t, t < i → ∃ G d, gs[t]? = some (.slice G ((ys t).length + 20) d) ∧ Far wr 3 is i G (reps .i64 ((ys t).length + 20) (mkInts t))) ∧
          (∀ t A c, t < i → is[t]? = some (.slice A (ys t).length c) → Far wr 3 is i A (reps .i64 (ys t).length (mkInts t))) ∧
          (∀ (t : Nat) (v : Value), i ≤ t → is[t]? = some v → wr.ownsRow base 3 1 v (ys t).length (reps .i64 (ys t).length (mkInts t))) ∧
          KeepsBut (fun t => t = 3) w wr ∧ Below base w wr)
        (fun cn _ _ => is.length - (intOf cn).toNat)
      case atStart => exact ⟨0, by omega, rfl, [], rfl, World.ownsRow_nil _ _ _ _, (fun t ht => by omega), (fun t A c ht => by omega), (fun t v _ hv => hrest t v hv), hkp, hbl⟩
      case round =>
        obtain ⟨i, hi, rfl, gs, hgl, hga, hgot, hold, hrest, hkp, hbl⟩ := hrel
        have hbk := HB.out wr hkp
        have hpb := hbk.row.lt
        have hc0 := hbk.row.cell 2
        simp only [bookRow, List.getElem?_cons_succ, List.getElem?_cons_zero] at hc0
        rw [hv0] at hc0
        by_cases hlt : i < is.length
        · have hii : (i : Int) < is.length := by omega
          obtain ⟨v, hv⟩ : ∃ v, is[i]? = some v := ⟨is[i], List.getElem?_eq_getElem hlt⟩
          have hown := hrest i v (Nat.le_refl _) hv
          obtain ⟨A, cc, hva⟩ := own_form hown
          subst hva
          obtain ⟨gb, c', hvb, _, hgb, hcv⟩ := own_get hbk.i hv
          rw [hv0] at hvb
          injection hvb with hB0 _ hc0'
          subst hB0
          subst hc0'
          have hap : ∀ (j : Nat) (u : Value) (g : Nat), i + 1 ≤ j → is[j]? = some u → (Value.slice A (ys i).length cc).ownBlock = some g → u.ownBlock ≠ some g := fun j u g hj hu hg => hapart i j _ u g hv hu (by omega) hg
          have hltb : ∀ (j : Nat) (u : Value) (g : Nat), i + 1 ≤ j → is[j]? = some u → u.ownBlock = some g → g < wr.heap.size := fun j u g hj hu hg => by
            obtain ⟨_, cur, hc⟩ := own_row (hrest j u (by omega) hu) hg
            exact (Array.getElem?_eq_some_iff.1 hc).1
          have hni := hlen i
          have hsz : base ≤ wr.heap.size := Nat.le_trans hb hbl.size
          have hgr0 := Grow.start hown
          have HGA := Lib.hid hga
          have HGOT := Lib.hid hgot
          have HOLD := Lib.hid hold
          have HREST := Lib.hid hrest
          have HAP := Lib.hid hap
          have HLTB := Lib.hid hltb
          have HBK := Lib.hid hbk
          clear hga hgot hold hrest hap hltb hown hbk hnil
          go_wp2_with fail
          clear hpb hc0 hgb hcv
          obtain ⟨wo, rfl⟩ : ∃ wo : World, wo = wr := ⟨_, rfl⟩
          go_loopw [8, 7] (fun cq cg wr => ∃ q : Nat, q ≤ 20 ∧ cq = .int .i64 q ∧ Grow base wo wr 3 .i64 A (ys i).length cc (mkInts i) q cg)
            (fun cn _ _ => 20 - (intOf cn).toNat)
          case atStart => exact ⟨0, by omega, rfl, hgr0⟩
          case round =>
            obtain ⟨q, hq, rfl, hgr⟩ := hrel
            clear hgr0
            by_cases hqt : q < 20
            · have hqq : (q : Int) < 20 := by omega
              have hszr : base ≤ wr.heap.size := Nat.le_trans hsz hgr.fr.size
              have hn := (New.refl wr).alloc (.cells #[.int .i64 (mkInts i)] 3)
              have hown := own_new hgr.own hn
              have hel := elems_new wr 3 (.int .i64 (mkInts i))
              have HOWN := Lib.hid hown
              have HEL := Lib.hid hel
              have HGR := Lib.hid hgr
              clear hown hel hgr
              go_wp2_with (at_builtin; refine wpList_append_elems2 rfl _ _ 25 rfl base 3 j0 (.int .i64 0) 1 8 Try.underlying25 hj0 hy0 hy1 hy2 rfl (by decide) _ _ _ rfl HOWN.out (wr.heap.size + 1) _ 1 1 [.int .i64 (mkInts i)] rfl HEL.out rfl (by simp [Value.oneCell']) ?c1 ?c2 ?c3 ?_)
              case c1 => unfold maxLen; omega
              case c2 => omega
              case c3 => simp; omega
              intro v' w' ho' hg hloc
              have hgr2 := HGR.out.step hn ho' hg (by rw [World.size_alloc]; exact hloc)
              clear ho' hg hloc HOWN HEL HGR
              go_wp2
              exact ⟨⟨q + 1, by omega, by go_num, hgr2⟩, by simp [intOf]; omega⟩
            · have hqe : q = 20 := by omega
              subst hqe
              obtain ⟨G, d, hG⟩ := own_form hgr.own
              subst hG
              have hfo := hgr.far_old HAP.out
              have hfn := hgr.far_new HAP.out HLTB.out
              have hkw : KeepsBut (fun t => t = 3) wo wr := fun b cs t fr hb2 ht => by
                have hlt2 := (Array.getElem?_eq_some_iff.1 hb2).1
                refine hgr.fr.block b hlt2 (fun hbo => ?_)
                obtain ⟨_, cur, hcur⟩ := own_row (HREST.out i _ (Nat.le_refl _) hv) hbo
                rw [hcur] at hb2
                simp only [Option.some.injEq, Obj.cells.injEq] at hb2
                exact ht hb2.2.1.symm
              have hga2 := hkw.own HGA.out (by decide)
              have hn2 := (New.refl wr).alloc (.cells #[.slice G ((ys i).length + 20) d] 25)
              have hown2 := own_new hga2 hn2
              have hel2 := elems_new wr 25 (.slice G ((ys i).length + 20) d)
              have hszw : w.heap.size ≤ wr.heap.size := Nat.le_trans hbl.size hgr.fr.size
              have HOWN2 := Lib.hid hown2
              have HEL2 := Lib.hid hel2
              have HFO := Lib.hid hfo
              have HFN := Lib.hid hfn
              have HKW := Lib.hid hkw
              have HGR := Lib.hid hgr
              clear hga2 hown2 hel2 hfo hfn hkw hgr
              go_wp2_with (at_builtin; refine wpList_append_elems2 rfl _ _ 52 rfl w.heap.size 25 i0 (.slice none 0 0) 1 24 Try.underlying52 hi0 hz0 hz1 hz2 rfl (by decide) _ _ _ rfl HOWN2.out (wr.heap.size + 1) _ 1 1 [.slice G ((ys i).length + 20) d] rfl HEL2.out rfl (by simp [Value.oneCell']) ?d1 ?d2 ?d3 ?_)
              case d1 => unfold maxLen; omega
              case d2 => omega
              case d3 => simp; omega
              intro v' w' ho' hg hloc
              have hk2 : KeepsBut (fun t => t = 25) wr w' := (hn2.keepsBut _).trans (KeepsBut.grown HOWN2.out hg rfl)
              have hkall : KeepsBut (fun t => t = 3) w w' := fun b cs t fr hb2 ht => by
                have hlt2 := (Array.getElem?_eq_some_iff.1 hb2).1
                have e1 := (hkp.trans HKW.out) b cs t fr hb2 ht
                have e2 := hn2.block b (by omega) (fun e => e)
                have e3 := hg.block b (by rw [World.size_alloc]; omega) (fun e' => by have := (own_row HOWN2.out e'.symm).1; omega)
                exact (e3.trans e2).trans e1
              have hbl3 : Below base wo wr := HGR.out.fr.below hsz (fun b hb2 hbo => by have := (own_row (HREST.out i _ (Nat.le_refl _) hv) hbo).1; omega)
              have hszr : base ≤ wr.heap.size := Nat.le_trans hsz HGR.out.fr.size
              have hbl4 : Below base w w' := ((hbl.trans hbl3).trans (hn2.below hszr)).trans (Below.grown_own (own_lower HOWN2.out hb) hg (by rw [World.size_alloc]; omega))
              have got' : ∀ t, t < i + 1 → ∃ G' d', (gs ++ [Value.slice G ((ys i).length + 20) d])[t]? = some (.slice G' ((ys t).length + 20) d') ∧ Far w' 3 is (i + 1) G' (reps .i64 ((ys t).length + 20) (mkInts t)) := fun t ht => by
                by_cases h0 : t < i
                · obtain ⟨G', d', hg1, hf1⟩ := HGOT.out t h0
                  exact ⟨G', d', by rw [List.getElem?_append_left (by omega)]; exact hg1, (hf1.step hv HGR.out.fr).keeps hk2 (by decide)⟩
                · have h1 : t = i := by omega
                  subst h1
                  exact ⟨G, d, by rw [List.getElem?_append_right (by omega)]; simp [hgl], HFN.out.keeps hk2 (by decide)⟩
              have old' : ∀ t A' c', t < i + 1 → is[t]? = some (.slice A' (ys t).length c') → Far w' 3 is (i + 1) A' (reps .i64 (ys t).length (mkInts t)) := fun t A' c' ht hv2 => by
                by_cases h0 : t < i
                · exact ((HOLD.out t A' c' h0 hv2).step hv HGR.out.fr).keeps hk2 (by decide)
                · have h1 : t = i := by omega
                  subst h1
                  rw [hv] at hv2
                  simp only [Option.some.injEq, Value.slice.injEq] at hv2
                  rw [← hv2.1]
                  exact HFO.out.keeps hk2 (by decide)
              have rest' : ∀ (t : Nat) (v : Value), i + 1 ≤ t → is[t]? = some v → w'.ownsRow base 3 1 v (ys t).length (reps .i64 (ys t).length (mkInts t)) := fun t v ht hv2 =>
                hk2.own (own_keep (HREST.out t v (by omega) hv2) (fun g hg2 => HGR.out.fr.block g (HLTB.out t v g ht hv2 hg2) (fun hbo => HAP.out t v g ht hv2 hbo hg2))) (by decide)
              obtain ⟨A2, c2, hv2⟩ := own_form ho'
              have ho2 : w'.ownsRow w.heap.size 25 1 v' (gs ++ [Value.slice G ((ys i).length + 20) d]).length (gs ++ [Value.slice G ((ys i).length + 20) d]) := by
                rw [show (gs ++ [Value.slice G ((ys i).length + 20) d]).length = i + 1 by simp [hgl]]; exact ho'
              have HO2 := Lib.hid ho2
              have GOT2 := Lib.hid got'
              have OLD2 := Lib.hid old'
              have REST2 := Lib.hid rest'
              have KALL := Lib.hid hkall
              have BL4 := Lib.hid hbl4
              have GL2 := Lib.hid (show (gs ++ [Value.slice G ((ys i).length + 20) d]).length = i + 1 by simp [hgl])
              clear ho' hg hloc ho2 got' old' rest' hkall hbl4 hbl3 hk2 hszr hv2 HGOT HOLD HREST HAP HLTB HBK HFO HFN HKW HGR HOWN2 HEL2 hkp hbl hgl hn2
              go_wp2_with fail
              exact ⟨⟨i + 1, by omega, by go_num, gs ++ [Value.slice G ((ys i).length + 20) d], GL2.out, HO2.out, GOT2.out, OLD2.out, REST2.out, KALL.out, BL4.out⟩, by simp [intOf]; omega⟩
        · have hie : i = is.length := by omega
          subst hie
          obtain ⟨CA, cca, hca⟩ := own_form hga
          subst hca
          have hgal : ((gs.length : Nat) : Int) = is.length := by rw [hgl]
          have HGA := Lib.hid hga
          have HGOT := Lib.hid hgot
          have HOLD := Lib.hid hold
          have HBK := Lib.hid hbk
          have HGL := Lib.hid hgl
          have HHC := Lib.hid hc0
          clear hga hgot hold hrest hbk hgl
          go_wp2_with fail
          go_loop [9] (fun ci => ∃ i : Nat, i ≤ is.length ∧ ci = .int .i64 i) (fun ci => is.length - (intOf ci).toNat)
          case atStart => exact ⟨0, by omega, rfl⟩
          case round =>
            obtain ⟨i, hi2, rfl⟩ := hrel
            by_cases hlt2 : i < is.length
            · have hii : (i : Int) < is.length := by omega
              obtain ⟨v, hv⟩ : ∃ v, is[i]? = some v := ⟨is[i], List.getElem?_eq_getElem hlt2⟩
              obtain ⟨G, d, hgi, hfar⟩ := HGOT.out i hlt2
              obtain ⟨ga, ca', hva, _, hga2, hcell⟩ := own_get HGA.out hgi
              injection hva with hA1 _ hA2
              subst hA1
              subst hA2
              have hni := hlen i
              have hel := hfar.1
              clear hfar
              --INNER
              have HEL := Lib.hid hel
              have HCELL := Lib.hid hcell
              clear hel
              go_wp2_with fail
              go_loop [10] (fun ck => ∃ q : Nat, q ≤ (ys i).length + 20 ∧ ck = .int .i64 q) (fun ck => (ys i).length + 20 - (intOf ck).toNat)
              case atStart => exact ⟨0, by omega, rfl⟩
              case round =>
                obtain ⟨q, hq, rfl⟩ := hrel
                by_cases hqt : q < (ys i).length + 20
                · have hqq : (q : Int) < (ys i).length + 20 := by omega
                  obtain ⟨b5, off5, cs5, fr5, hG5, hb5, hcs5⟩ := HEL.out (by rw [reps_length]; omega)
                  subst hG5
                  have hcq : wr.cell? ⟨b5, off5 + q, none⟩ = some (.int .i64 (-9000 - (i : Int))) := by
                    rw [cell_of_row wr b5 (off5 + q) cs5 3 fr5 hb5]; exact hcs5 q _ (reps_get hqt)
                  clear hb5 hcs5
                  go_wp2_with fail
                  go_round
                  case rel => exact ⟨q + 1, by omega, by go_num⟩
                  case measure => simp [intOf]; omega
                · have hqe : q = (ys i).length + 20 := by omega
                  subst hqe
                  obtain ⟨A4, c4, hva4⟩ : ∃ A4 c4, v = .slice A4 (ys i).length c4 := HFORM.out i v hv
                  subst hva4
                  have hold4 := HOLD.out i A4 c4 hlt2 hv
                  have hc04 := HHC.out
                  obtain ⟨gb4, c4', hvb4, _, hgb4, hcell4⟩ := own_get HBK.out.i hv
                  rw [hv0] at hvb4
                  injection hvb4 with hB04 _ hc04'
                  subst hB04
                  subst hc04'
                  have HE4 := Lib.hid hold4.1
                  have HC4 := Lib.hid hcell4
                  clear hold4
                  go_wp2_with fail
                  go_loop [11] (fun ck => ∃ q : Nat, q ≤ (ys i).length ∧ ck = .int .i64 q) (fun ck => (ys i).length - (intOf ck).toNat)
                  case atStart => exact ⟨0, by omega, rfl⟩
                  case round =>
                    obtain ⟨q, hq5, rfl⟩ := hrel
                    by_cases hqt5 : q < (ys i).length
                    · have hqq5 : (q : Int) < (ys i).length := by omega
                      obtain ⟨b5, off5, cs5, fr5, hG5, hb5, hcs5⟩ := HE4.out (by rw [reps_length]; omega)
                      subst hG5
                      have hcq : wr.cell? ⟨b5, off5 + q, none⟩ = some (.int .i64 (-9000 - (i : Int))) := by
                        rw [cell_of_row wr b5 (off5 + q) cs5 3 fr5 hb5]; exact hcs5 q _ (reps_get hqt5)
                      clear hb5 hcs5
                      go_wp2_with fail
                      go_round
                      case rel => exact ⟨q + 1, by omega, by go_num⟩
                      case measure => simp [intOf]; omega
                    · have hqe5 : q = (ys i).length := by omega
                      subst hqe5
                      go_wp2_with fail
                      go_round
                      case rel => exact ⟨i + 1, by omega, by go_num⟩
                      case measure => simp [intOf]; omega
            · have hie2 : i = is.length := by omega
              subst hie2
              go_wp2_with fail
              go_ret
              exact ⟨rfl, hkp, hbl⟩

def mkBytes (i : Nat) : Int := 48 + (i : Int) % 200
set_option maxRecDepth 100000 in
set_option maxHeartbeats 4000000 in
theorem aloneBytes_any {base pb : Nat} {vb vi : Value} {bs is : List Value} {ys : Nat → List Int} (w : World) (h : BookAt base w pb vb vi bs is) (hf : Fam base w 5 .u8 bs ys) (hlen : ∀ i, (ys i).length ≤ 140737488351232)
    (hm : bs.length ≤ 100000) (hb : base ≤ w.heap.size) :
    Calls Try.prog 92 #[.pointer (some ⟨pb, 0, none⟩)] w fun e w' => e = .returned (.bool true) ∧ KeepsBut (fun t => t = 5) w w' ∧ Below base w w' := by
  have H := Lib.hid h
  have hbook : ∀ w', KeepsBut (fun t => t = 5) w w' → BookAt base w' pb vb vi bs is := fun w' hk => h.keep hk (by decide) (by decide) (by decide)
  have HB := Lib.hid hbook
  obtain ⟨B0, c0, hv0⟩ := own_form h.b
  have hnil : bs.length = 0 ∨ ∃ g, B0 = some ⟨g, 0, none⟩ := by
    by_cases h0 : bs.length = 0
    · exact .inl h0
    · rw [hv0] at h
      obtain ⟨g, hg, _⟩ := own_cell h.b (by omega)
      exact .inr ⟨g, hg⟩
  clear h hbook
  go_enter Try.func92, Try.ntmps92
  go_wp2_with fail
  go_loopw [3] (fun ci wr => ∃ i : Nat, i ≤ bs.length ∧ ci = .int .i64 i ∧ ∃ zs : Nat → List Int, (∀ t, (zs t).length = (ys t).length) ∧ (∀ t, t < i → zs t = List.replicate (ys t).length (mkBytes t)) ∧
      Fam base wr 5 .u8 bs zs ∧ KeepsBut (fun t => t = 5) w wr ∧ Below base w wr)
    (fun cn _ => bs.length - (intOf cn).toNat)
  case atStart => exact ⟨0, by omega, rfl, ys, fun _ => rfl, (fun t ht => by omega), hf, KeepsBut.refl _ _, Below.refl _ _⟩
  case round =>
    obtain ⟨i, hi, rfl, zs, hzl, hzd, hfz, hkp, hbl⟩ := hrel
    clear hf
    have hbk := HB.out wr hkp
    have hpb := hbk.row.lt
    have hc0 := hbk.row.cell 0
    simp only [bookRow, List.getElem?_cons_zero] at hc0
    rw [hv0] at hc0
    have HZD := Lib.hid hzd
    have HZL := Lib.hid hzl
    clear hzd hzl
    by_cases hlt : i < bs.length
    · have hii : (i : Int) < bs.length := by omega
      obtain ⟨v, hv⟩ : ∃ v, bs[i]? = some v := ⟨bs[i], List.getElem?_eq_getElem hlt⟩
      obtain ⟨A, cc, hva⟩ := own_form (hfz.own i v hv)
      rw [HZL.out i] at hva
      subst hva
      obtain ⟨gb, c', hvb, _, hgb, _⟩ := own_get hbk.b hv
      rw [hv0] at hvb
      injection hvb with hB0 _ hc0'
      subst hB0
      subst hc0'
      have hni := hlen i
      clear hbk hnil
      go_wp2_with fail
      go_loopw [4] (fun ck wr => ∃ q : Nat, q ≤ (ys i).length ∧ ck = .int .i64 q ∧ ∃ zs : Nat → List Int, (∀ t, (zs t).length = (ys t).length) ∧ (∀ t, t < i → zs t = List.replicate (ys t).length (mkBytes t)) ∧
          (∀ j, j < q → gt (zs i) j = mkBytes i) ∧ Fam base wr 5 .u8 bs zs ∧ KeepsBut (fun t => t = 5) w wr ∧ Below base w wr)
        (fun cn _ => (ys i).length - (intOf cn).toNat)
      case atStart => exact ⟨0, by omega, rfl, zs, HZL.out, HZD.out, (fun j hj => by omega), hfz, hkp, hbl⟩
      case round =>
        obtain ⟨q, hq, rfl, zs, hzl, hzd, hzq, hfz, hkp, hbl⟩ := hrel
        have hbk := HB.out wr hkp
        have hpb := hbk.row.lt
        have hc0 := hbk.row.cell 0
        simp only [bookRow, List.getElem?_cons_zero] at hc0
        rw [hv0] at hc0
        obtain ⟨gb', c', hvb, _, hgb, hcv⟩ := own_get hbk.b hv
        rw [hv0] at hvb
        injection hvb with hB0 _ hc0'
        injection hB0 with hB0
        injection hB0 with hB0
        subst hB0
        clear hc0' hbk
        by_cases hqt : q < (ys i).length
        · have hqq : (q : Int) < (ys i).length := by omega
          have hown := hfz.own i _ hv
          rw [hzl i] at hown
          obtain ⟨g, rfl, hbg, hg, hcc, hff⟩ := own_cell hown (by rw [List.length_map, hzl i]; omega)
          have hqz : q < (zs i).length := by rw [hzl i]; exact hqt
          have hcq := hcc q (.int .u8 (gt (zs i) q)) (by simp [gt, hqz])
          have hfq := hff q
          have hset := hfz.set (i := i) (g := g) (c := cc) (by rw [hzl i]; exact hv) q (mkBytes i)
          have hks : KeepsBut (fun t => t = 5) w (wr.setCell ⟨g, q, none⟩ (.int .u8 (mkBytes i))) := hkp.trans (by
            obtain ⟨_, cur, hcur⟩ := own_row hown (g := g) rfl
            intro b cs t fr hb2 ht
            exact heap_setCell_other wr ⟨g, q, none⟩ b _ (fun e => by
              have e : b = g := e
              subst e
              rw [hcur] at hb2
              simp only [Option.some.injEq, Obj.cells.injEq] at hb2
              exact ht hb2.2.1.symm))
          have hbs := hbl.setCell (p := ⟨g, q, none⟩) hbg (.int .u8 (mkBytes i))
          have hz1 : ∀ t, (if t = i then (zs i).set q (mkBytes i) else zs t).length = (ys t).length := fun t => by
            split
            · rename_i h0; subst h0; rw [List.length_set]; exact hzl _
            · exact hzl t
          have hz2 : ∀ t, t < i → (if t = i then (zs i).set q (mkBytes i) else zs t) = List.replicate (ys t).length (mkBytes t) := fun t ht => by
            rw [if_neg (by omega)]; exact hzd t ht
          have hz3 : ∀ j, j < q + 1 → gt (if i = i then (zs i).set q (mkBytes i) else zs i) j = mkBytes i := fun j hj => by
            rw [if_pos rfl]
            have e : gt ((zs i).set q (mkBytes i)) j = if j = q then mkBytes i else gt (zs i) j := gt_st (zs i) q j _ hqz
            rw [e]
            split
            · rfl
            · exact hzq j (by omega)
          have HS := Lib.hid hset
          have HKS := Lib.hid hks
          have HBS := Lib.hid hbs
          have HZ1 := Lib.hid hz1
          have HZ2 := Lib.hid hz2
          have HZ3 := Lib.hid hz3
          clear hset hks hbs hz1 hz2 hz3 hown hcc hff hfz hzd hzq hkp hbl
          generalize gt (zs i) q = old at *
          go_wp2_with fail
          exact ⟨⟨q + 1, by omega, by go_num, _, HZ1.out, HZ2.out, HZ3.out, HS.out, HKS.out, HBS.out⟩, by simp [intOf]; omega⟩
        · have hqe : q = (ys i).length := by omega
          subst hqe
          have hdone : zs i = List.replicate (ys i).length (mkBytes i) := fill_done (hzl i) hzq
          have hz2 : ∀ t, t < i + 1 → zs t = List.replicate (ys t).length (mkBytes t) := fun t ht => by
            by_cases h0 : t = i
            · subst h0; exact hdone
            · exact hzd t (by omega)
          have HZ1 := Lib.hid hzl
          have HZ2 := Lib.hid hz2
          have HF := Lib.hid hfz
          clear hzl hzd hzq hdone hz2 hfz
          go_wp2_with fail
          exact ⟨⟨i + 1, by omega, by go_num, zs, HZ1.out, HZ2.out, HF.out, hkp, hbl⟩, by simp [intOf]; omega⟩
    · have hie : i = bs.length := by omega
      subst hie
      have hapart := hfz.apart
      have hrest : ∀ (t : Nat) (v : Value), bs[t]? = some v → wr.ownsRow base 5 1 v (ys t).length (reps .u8 (ys t).length (mkBytes t)) := fun t v hv => by
        have h1 := hfz.own t v hv
        rw [HZD.out t (List.getElem?_eq_some_iff.1 hv).1, List.length_replicate] at h1
        exact h1
      have HFORM := Lib.hid (fun (t : Nat) (v : Value) (hv : bs[t]? = some v) => own_form (hrest t v hv))
      obtain ⟨i0, hi0, hz0, hz1, hz2⟩ := info_parts infoOf30
      obtain ⟨j0, hj0, hy0, hy1, hy2⟩ := info_parts infoOf5
      clear hfz hbk HZD HZL
      go_wp2_with fail
      clear hpb hc0
      go_loopw [6, 5] (fun ci ca wr => ∃ i : Nat, i ≤ bs.length ∧ ci = .int .i64 i ∧ ∃ gs : List Value, gs.length = i ∧ wr.ownsRow w.heap.size 30 1 ca gs.length gs ∧
          (∀ t, t < i → ∃ G d, gs[t]? = some (.slice G ((ys t).length + 20) d) ∧ Far wr 5 bs i G (reps .u8 ((ys t).length + 20) (mkBytes t))) ∧
          (∀ t A c, t < i → bs[t]? = some (.slice A (ys t).length c) → Far wr 5 bs i A (reps .u8 (ys t).length (mkBytes t))) ∧
          (∀ (t : Nat) (v : Value), i ≤ t → bs[t]? = some v → wr.ownsRow base 5 1 v (ys t).length (reps .u8 (ys t).length (mkBytes t))) ∧
          KeepsBut (fun t => t = 5) w wr ∧ Below base w wr)
        (fun cn _ _ => bs.length - (intOf cn).toNat)
      case atStart => exact ⟨0, by omega, rfl, [], rfl, World.ownsRow_nil _ _ _ _, (fun t ht => by omega), (fun t A c ht => by omega), (fun t v _ hv => hrest t v hv), hkp, hbl⟩
      case round =>
        obtain ⟨i, hi, rfl, gs, hgl, hga, hgot, hold, hrest, hkp, hbl⟩ := hrel
        have hbk := HB.out wr hkp
        have hpb := hbk.row.lt
        have hc0 := hbk.row.cell 0
        simp only [bookRow, List.getElem?_cons_zero] at hc0
        rw [hv0] at hc0
        by_cases hlt : i < bs.length
        · have hii : (i : Int) < bs.length := by omega
          obtain ⟨v, hv⟩ : ∃ v, bs[i]? = some v := ⟨bs[i], List.getElem?_eq_getElem hlt⟩
          have hown := hrest i v (Nat.le_refl _) hv
          obtain ⟨A, cc, hva⟩ := own_form hown
          subst hva
          obtain ⟨gb, c', hvb, _, hgb, hcv⟩ := own_get hbk.b hv
          rw [hv0] at hvb
          injection hvb with hB0 _ hc0'
          subst hB0
          subst hc0'
          have hap : ∀ (j : Nat) (u : Value) (g : Nat), i + 1 ≤ j → bs[j]? = some u → (Value.slice A (ys i).length cc).ownBlock = some g → u.ownBlock ≠ some g := fun j u g hj hu hg => hapart i j _ u g hv hu (by omega) hg
          have hltb : ∀ (j : Nat) (u : Value) (g : Nat), i + 1 ≤ j → bs[j]? = some u → u.ownBlock = some g → g < wr.heap.size := fun j u g hj hu hg => by
            obtain ⟨_, cur, hc⟩ := own_row (hrest j u (by omega) hu) hg
            exact (Array.getElem?_eq_some_iff.1 hc).1
          have hni := hlen i
          have hsz : base ≤ wr.heap.size := Nat.le_trans hb hbl.size
          have hgr0 := Grow.start hown
          have HGA := Lib.hid hga
          have HGOT := Lib.hid hgot
          have HOLD := Lib.hid hold
          have HREST := Lib.hid hrest
          have HAP := Lib.hid hap
          have HLTB := Lib.hid hltb
          have HBK := Lib.hid hbk
          clear hga hgot hold hrest hap hltb hown hbk hnil
          go_wp2_with fail
          clear hpb hc0 hgb hcv
          obtain ⟨wo, rfl⟩ : ∃ wo : World, wo = wr := ⟨_, rfl⟩
          go_loopw [8, 7] (fun cq cg wr => ∃ q : Nat, q ≤ 20 ∧ cq = .int .i64 q ∧ Grow base wo wr 5 .u8 A (ys i).length cc (mkBytes i) q cg)
            (fun cn _ _ => 20 - (intOf cn).toNat)
          case atStart => exact ⟨0, by omega, rfl, hgr0⟩
          case round =>
            obtain ⟨q, hq, rfl, hgr⟩ := hrel
            clear hgr0
            by_cases hqt : q < 20
            · have hqq : (q : Int) < 20 := by omega
              have hszr : base ≤ wr.heap.size := Nat.le_trans hsz hgr.fr.size
              have hn := (New.refl wr).alloc (.cells #[.int .u8 (mkBytes i)] 5)
              have hown := own_new hgr.own hn
              have hel := elems_new wr 5 (.int .u8 (mkBytes i))
              have HOWN := Lib.hid hown
              have HEL := Lib.hid hel
              have HGR := Lib.hid hgr
              clear hown hel hgr
              go_wp2_with (at_builtin; refine wpList_append_elems2 rfl _ _ 30 rfl base 5 j0 (.int .u8 0) 1 1 Try.underlying30 hj0 hy0 hy1 hy2 rfl (by decide) _ _ _ rfl HOWN.out (wr.heap.size + 1) _ 1 1 [.int .u8 (mkBytes i)] rfl HEL.out rfl (by simp [Value.oneCell']) ?c1 ?c2 ?c3 ?_)
              case c1 => unfold maxLen; omega
              case c2 => omega
              case c3 => simp; omega
              intro v' w' ho' hg hloc
              have hgr2 := HGR.out.step hn ho' hg (by rw [World.size_alloc]; exact hloc)
              clear ho' hg hloc HOWN HEL HGR
              go_wp2
              exact ⟨⟨q + 1, by omega, by go_num, hgr2⟩, by simp [intOf]; omega⟩
            · have hqe : q = 20 := by omega
              subst hqe
              obtain ⟨G, d, hG⟩ := own_form hgr.own
              subst hG
              have hfo := hgr.far_old HAP.out
              have hfn := hgr.far_new HAP.out HLTB.out
              have hkw : KeepsBut (fun t => t = 5) wo wr := fun b cs t fr hb2 ht => by
                have hlt2 := (Array.getElem?_eq_some_iff.1 hb2).1
                refine hgr.fr.block b hlt2 (fun hbo => ?_)
                obtain ⟨_, cur, hcur⟩ := own_row (HREST.out i _ (Nat.le_refl _) hv) hbo
                rw [hcur] at hb2
                simp only [Option.some.injEq, Obj.cells.injEq] at hb2
                exact ht hb2.2.1.symm
              have hga2 := hkw.own HGA.out (by decide)
              have hn2 := (New.refl wr).alloc (.cells #[.slice G ((ys i).length + 20) d] 30)
              have hown2 := own_new hga2 hn2
              have hel2 := elems_new wr 30 (.slice G ((ys i).length + 20) d)
              have hszw : w.heap.size ≤ wr.heap.size := Nat.le_trans hbl.size hgr.fr.size
              have HOWN2 := Lib.hid hown2
              have HEL2 := Lib.hid hel2
              have HFO := Lib.hid hfo
              have HFN := Lib.hid hfn
              have HKW := Lib.hid hkw
              have HGR := Lib.hid hgr
              clear hga2 hown2 hel2 hfo hfn hkw hgr
              go_wp2_with (at_builtin; refine wpList_append_elems2 rfl _ _ 50 rfl w.heap.size 30 i0 (.slice none 0 0) 1 24 Try.underlying50 hi0 hz0 hz1 hz2 rfl (by decide) _ _ _ rfl HOWN2.out (wr.heap.size + 1) _ 1 1 [.slice G ((ys i).length + 20) d] rfl HEL2.out rfl (by simp [Value.oneCell']) ?d1 ?d2 ?d3 ?_)
              case d1 => unfold maxLen; omega
              case d2 => omega
              case d3 => simp; omega
              intro v' w' ho' hg hloc
              have hk2 : KeepsBut (fun t => t = 30) wr w' := (hn2.keepsBut _).trans (KeepsBut.grown HOWN2.out hg rfl)
              have hkall : KeepsBut (fun t => t = 5) w w' := fun b cs t fr hb2 ht => by
                have hlt2 := (Array.getElem?_eq_some_iff.1 hb2).1
                have e1 := (hkp.trans HKW.out) b cs t fr hb2 ht
                have e2 := hn2.block b (by omega) (fun e => e)
                have e3 := hg.block b (by rw [World.size_alloc]; omega) (fun e' => by have := (own_row HOWN2.out e'.symm).1; omega)
                exact (e3.trans e2).trans e1
              have hbl3 : Below base wo wr := HGR.out.fr.below hsz (fun b hb2 hbo => by have := (own_row (HREST.out i _ (Nat.le_refl _) hv) hbo).1; omega)
              have hszr : base ≤ wr.heap.size := Nat.le_trans hsz HGR.out.fr.size
              have hbl4 : Below base w w' := ((hbl.trans hbl3).trans (hn2.below hszr)).trans (Below.grown_own (own_lower HOWN2.out hb) hg (by rw [World.size_alloc]; omega))
              have got' : ∀ t, t < i + 1 → ∃ G' d', (gs ++ [Value.slice G ((ys i).length + 20) d])[t]? = some (.slice G' ((ys t).length + 20) d') ∧ Far w' 5 bs (i + 1) G' (reps .u8 ((ys t).length + 20) (mkBytes t)) := fun t ht => by
                by_cases h0 : t < i
                · obtain ⟨G', d', hg1, hf1⟩ := HGOT.out t h0
                  exact ⟨G', d', by rw [List.getElem?_append_left (by omega)]; exact hg1, (hf1.step hv HGR.out.fr).keeps hk2 (by decide)⟩
                · have h1 : t = i := by omega
                  subst h1
                  exact ⟨G, d, by rw [List.getElem?_append_right (by omega)]; simp [hgl], HFN.out.keeps hk2 (by decide)⟩
              have old' : ∀ t A' c', t < i + 1 → bs[t]? = some (.slice A' (ys t).length c') → Far w' 5 bs (i + 1) A' (reps .u8 (ys t).length (mkBytes t)) := fun t A' c' ht hv2 => by
                by_cases h0 : t < i
                · exact ((HOLD.out t A' c' h0 hv2).step hv HGR.out.fr).keeps hk2 (by decide)
                · have h1 : t = i := by omega
                  subst h1
                  rw [hv] at hv2
                  simp only [Option.some.injEq, Value.slice.injEq] at hv2
                  rw [← hv2.1]
                  exact HFO.out.keeps hk2 (by decide)
              have rest' : ∀ (t : Nat) (v : Value), i + 1 ≤ t → bs[t]? = some v → w'.ownsRow base 5 1 v (ys t).length (reps .u8 (ys t).length (mkBytes t)) := fun t v ht hv2 =>
                hk2.own (own_keep (HREST.out t v (by omega) hv2) (fun g hg2 => HGR.out.fr.block g (HLTB.out t v g ht hv2 hg2) (fun hbo => HAP.out t v g ht hv2 hbo hg2))) (by decide)
              obtain ⟨A2, c2, hv2⟩ := own_form ho'
              have ho2 : w'.ownsRow w.heap.size 30 1 v' (gs ++ [Value.slice G ((ys i).length + 20) d]).length (gs ++ [Value.slice G ((ys i).length + 20) d]) := by
                rw [show (gs ++ [Value.slice G ((ys i).length + 20) d]).length = i + 1 by simp [hgl]]; exact ho'
              have HO2 := Lib.hid ho2
              have GOT2 := Lib.hid got'
              have OLD2 := Lib.hid old'
              have REST2 := Lib.hid rest'
              have KALL := Lib.hid hkall
              have BL4 := Lib.hid hbl4
              have GL2 := Lib.hid (show (gs ++ [Value.slice G ((ys i).length + 20) d]).length = i + 1 by simp [hgl])
              clear ho' hg hloc ho2 got' old' rest' hkall hbl4 hbl3 hk2 hszr hv2 HGOT HOLD HREST HAP HLTB HBK HFO HFN HKW HGR HOWN2 HEL2 hkp hbl hgl hn2
              go_wp2_with fail
              exact ⟨⟨i + 1, by omega, by go_num, gs ++ [Value.slice G ((ys i).length + 20) d], GL2.out, HO2.out, GOT2.out, OLD2.out, REST2.out, KALL.out, BL4.out⟩, by simp [intOf]; omega⟩
        · have hie : i = bs.length := by omega
          subst hie
          obtain ⟨CA, cca, hca⟩ := own_form hga
          subst hca
          have hgal : ((gs.length : Nat) : Int) = bs.length := by rw [hgl]
          have HGA := Lib.hid hga
          have HGOT := Lib.hid hgot
          have HOLD := Lib.hid hold
          have HBK := Lib.hid hbk
          have HGL := Lib.hid hgl
          have HHC := Lib.hid hc0
          clear hga hgot hold hrest hbk hgl
          go_wp2_with fail
          go_loop [9] (fun ci => ∃ i : Nat, i ≤ bs.length ∧ ci = .int .i64 i) (fun ci => bs.length - (intOf ci).toNat)
          case atStart => exact ⟨0, by omega, rfl⟩
          case round =>
            obtain ⟨i, hi2, rfl⟩ := hrel
            by_cases hlt2 : i < bs.length
            · have hii : (i : Int) < bs.length := by omega
              obtain ⟨v, hv⟩ : ∃ v, bs[i]? = some v := ⟨bs[i], List.getElem?_eq_getElem hlt2⟩
              obtain ⟨G, d, hgi, hfar⟩ := HGOT.out i hlt2
              obtain ⟨ga, ca', hva, _, hga2, hcell⟩ := own_get HGA.out hgi
              injection hva with hA1 _ hA2
              subst hA1
              subst hA2
              have hni := hlen i
              have hel := hfar.1
              clear hfar
              --INNER
              have HEL := Lib.hid hel
              have HCELL := Lib.hid hcell
              clear hel
              go_wp2_with fail
              go_loop [10] (fun ck => ∃ q : Nat, q ≤ (ys i).length + 20 ∧ ck = .int .i64 q) (fun ck => (ys i).length + 20 - (intOf ck).toNat)
              case atStart => exact ⟨0, by omega, rfl⟩
              case round =>
                obtain ⟨q, hq, rfl⟩ := hrel
                by_cases hqt : q < (ys i).length + 20
                · have hqq : (q : Int) < (ys i).length + 20 := by omega
                  obtain ⟨b5, off5, cs5, fr5, hG5, hb5, hcs5⟩ := HEL.out (by rw [reps_length]; omega)
                  subst hG5
                  have hcq : wr.cell? ⟨b5, off5 + q, none⟩ = some (.int .u8 (48 + (i : Int) % 200)) := by
                    rw [cell_of_row wr b5 (off5 + q) cs5 5 fr5 hb5]; exact hcs5 q _ (reps_get hqt)
                  clear hb5 hcs5
                  go_wp2_with fail
                  go_round
                  case rel => exact ⟨q + 1, by omega, by go_num⟩
                  case measure => simp [intOf]; omega
                · have hqe : q = (ys i).length + 20 := by omega
                  subst hqe
                  obtain ⟨A4, c4, hva4⟩ : ∃ A4 c4, v = .slice A4 (ys i).length c4 := HFORM.out i v hv
                  subst hva4
                  have hold4 := HOLD.out i A4 c4 hlt2 hv
                  have hc04 := HHC.out
                  obtain ⟨gb4, c4', hvb4, _, hgb4, hcell4⟩ := own_get HBK.out.b hv
                  rw [hv0] at hvb4
                  injection hvb4 with hB04 _ hc04'
                  subst hB04
                  subst hc04'
                  have HE4 := Lib.hid hold4.1
                  have HC4 := Lib.hid hcell4
                  clear hold4
                  go_wp2_with fail
                  go_loop [11] (fun ck => ∃ q : Nat, q ≤ (ys i).length ∧ ck = .int .i64 q) (fun ck => (ys i).length - (intOf ck).toNat)
                  case atStart => exact ⟨0, by omega, rfl⟩
                  case round =>
                    obtain ⟨q, hq5, rfl⟩ := hrel
                    by_cases hqt5 : q < (ys i).length
                    · have hqq5 : (q : Int) < (ys i).length := by omega
                      obtain ⟨b5, off5, cs5, fr5, hG5, hb5, hcs5⟩ := HE4.out (by rw [reps_length]; omega)
                      subst hG5
                      have hcq : wr.cell? ⟨b5, off5 + q, none⟩ = some (.int .u8 (48 + (i : Int) % 200)) := by
                        rw [cell_of_row wr b5 (off5 + q) cs5 5 fr5 hb5]; exact hcs5 q _ (reps_get hqt5)
                      clear hb5 hcs5
                      go_wp2_with fail
                      go_round
                      case rel => exact ⟨q + 1, by omega, by go_num⟩
                      case measure => simp [intOf]; omega
                    · have hqe5 : q = (ys i).length := by omega
                      subst hqe5
                      go_wp2_with fail
                      go_round
                      case rel => exact ⟨i + 1, by omega, by go_num⟩
                      case measure => simp [intOf]; omega
            · have hie2 : i = bs.length := by omega
              subst hie2
              go_wp2_with fail
              go_ret
              exact ⟨rfl, hkp, hbl⟩
end Go.Proofs.Ytapfihlgemejiaa
