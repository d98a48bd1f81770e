/- gnomonlaw16.PassedRuns: the walk. -/
import Derived.Test.YtapfihlgemejiaaVT12
namespace Go.Proofs.Ytapfihlgemejiaa
open Go.RowKit Go.Proofs.YtapfihlgemejiaaW.PrintLast
def r12aT : Bool × List (List Nat × List Nat) := (true, [([], []), ([0], [0]), ([1], [1]), ([], []), ([3], [3]), ([4, 2], [4]), ([2, 5], [2, 5]), ([6, 5, 0, 1, 2, 3, 4, 5, 6], [6])])
def r12aB : List Nat := [0, 1, 3, 0, 8, 31, 63, 127]
theorem r12aTab : rtab .any (opsOf Try.f12 10) = r12aT := by kernel_rfl
theorem r12aBits : waitsOk r12aT.2 r12aB = true := by kernel_rfl
def r12bT : Bool × List (List Nat × List Nat) := (true, [([], []), ([], []), ([], []), ([1, 2], [1, 2]), ([3], [3]), ([0, 4], [0, 4]), ([5], [5])])
def r12bB : List Nat := [0, 0, 0, 6, 14, 31, 63]
theorem r12bTab : rtab .any (opsOf Try.f12 11) = r12bT := by kernel_rfl
theorem r12bBits : waitsOk r12bT.2 r12bB = true := by kernel_rfl
structure LR (w wr : World) (b5 base ps rs : Nat) (s r : Sto) (olds : List (Nat × Nat)) (vo : Value) : Prop where
  low : w.heap.size ≤ base
  size : base ≤ wr.heap.size
  st : StoreAt base wr ps s
  rst : RStoreAt base wr rs r
  tw : Twin s r
  row : Row wr b5 108 (duoC (ps, rs))
  lowb : w.heap.size ≤ b5
  own : wr.ownsRow w.heap.size 108 2 vo olds.length (duoRow olds)
  few : olds.length ≤ 8
  apart : vo.ownBlock ≠ some b5
  old : ∀ p ∈ olds, OldAt base wr p
  below : Below w.heap.size w wr
section
variable {w wr w' : World} {b5 base ps rs : Nat} {s r : Sto} {olds : List (Nat × Nat)} {vo : Value}
theorem Row.sk {g : Nat} {t : TypeId} {cs : List Value} (h : Row wr g t cs) (hk : SK wr w') (h1 : t ≠ 141) (h2 : t ≠ 143) (h3 : t ≠ 190) (h4 : t ≠ 194) : Row w' g t cs := (hk g _ t _ h h1 h2 h3 h4).trans h
theorem LR.step (h : LR w wr b5 base ps rs s r olds vo) (hk : BS base wr w') {s' r' : Sto} (h1 : StoreAt base w' ps s') (h2 : RStoreAt base w' rs r') (h3 : Twin s' r') : LR w w' b5 base ps rs s' r' olds vo :=
  ⟨h.low, Nat.le_trans h.size hk.size, h1, h2, h3, h.row.sk hk.k (by decide) (by decide) (by decide) (by decide), h.lowb, own_keep h.own (fun g hg => by
    obtain ⟨_, cur, hc⟩ := own_row h.own hg
    exact hk.k g _ _ _ hc (by decide) (by decide) (by decide) (by decide)), h.few, h.apart, fun p hp => (h.old p hp).below hk.b (Nat.le_refl _), h.below.trans (hk.b.mono h.low)⟩
/-- The two stores, and what lies round them, from world wx on. -/
def PS (base : Nat) (wx W : World) (ps rs : Nat) : Prop := BS base wx W ∧ ∃ s r, StoreAt base W ps s ∧ RStoreAt base W rs r ∧ Twin s r
theorem PS.drew {wx W : World} (h : PS base wx W ps rs) : PS base wx W.drew ps rs := by
  obtain ⟨h1, s, r, h2, h3, h4⟩ := h
  exact ⟨⟨h1.b.drew, h1.k.trans (New.refl W).drew.keeps.sk⟩, s, r, h2.new (New.refl W).drew, h3.new (New.refl W).drew, h4⟩
end
set_option maxRecDepth 100000 in
set_option maxHeartbeats 8000000 in
theorem passedRuns_any (last : Bool) (A : Option Addr) (c : Nat) (l : List Stp) (w : World) (hl : StpsAt w w.heap.size A l) (hrg : ∀ x ∈ l, (∀ y ∈ x.cells, -2147483648 ≤ y ∧ y ≤ 2147483647) ∧ x.cells.length ≤ 140737488355328) :
    Calls Try.prog 12 #[.bool last, .slice A l.length c] w fun e w' => e = .returned (.bool true) ∧ Below w.heap.size w w' := by
  have HL := Lib.hid hl
  have HRG := Lib.hid hrg
  have hlen := hl.1
  clear hl hrg
  go_enter Try.func12, Try.ntmps12
  go_wp2_with fail
  refine (live16_any w).mono ?_
  rintro e w1 ⟨rfl, hn1⟩
  have HN1 := Lib.hid hn1
  clear hn1
  go_wp2_with fail
  refine (new_any last w1.heap.size w1 (Nat.le_refl _)).mono ?_
  rintro e w2 ⟨rfl, hs2, hn2⟩
  have HS2 := Lib.hid hs2
  have HN2 := Lib.hid hn2
  clear hs2 hn2
  generalize w1.heap.size + 1 = psI at *
  go_wp2_with fail
  refine (rnew_any last w1.heap.size w2 HN2.out.size).mono ?_
  rintro e w3 ⟨rfl, hr3, hn3⟩
  have HR3 := Lib.hid hr3
  have HN3 := Lib.hid hn3
  have HS3 := Lib.hid (HS2.out.new hn3)
  clear hr3 hn3
  generalize w2.heap.size = rsI at *
  go_wp2_with fail
  have hst : LR w (w3.alloc (.cells #[.pointer (some ⟨psI, 0, none⟩), .pointer (some ⟨rsI, 0, none⟩)] 108)) w3.heap.size w1.heap.size psI rsI (newSto last) (newSto last) [] (.slice none 0 0) := by
    have hn : New w3 (w3.alloc (.cells #[.pointer (some ⟨psI, 0, none⟩), .pointer (some ⟨rsI, 0, none⟩)] 108)) := (New.refl w3).alloc _
    have h13 := (HN1.out.trans HN2.out).trans HN3.out
    refine ⟨HN1.out.size, ?_, HS3.out.new hn, HR3.out.new hn, Twin.refl _, Row.new w3 108 (duoC (psI, rsI)), h13.size, World.ownsRow_nil _ _ _ _, Nat.zero_le _, (by intro h; cases h), (fun p hp => by cases hp), (h13.trans hn).below (Nat.le_refl _)⟩
    exact Nat.le_trans (HN2.out.trans HN3.out).size hn.size
  have HST := Lib.hid hst
  clear hst HS2 HR3 HS3 HN1 HN2 HN3
  generalize w3.alloc (.cells #[.pointer (some ⟨psI, 0, none⟩), .pointer (some ⟨rsI, 0, none⟩)] 108) = w4 at *
  generalize w3.heap.size = b5 at *
  generalize newSto last = s0 at *
  generalize w1.heap.size = base0 at *
  clear w1 w2 w3
  go_loopw [6, 7] (fun vo vi wr => ∃ (i : Nat) (olds : List (Nat × Nat)) (oA : Option Addr) (oc : Nat) (base ps rs : Nat) (s r : Sto), i ≤ l.length ∧ vi = .int .i64 i ∧ vo = .slice oA olds.length oc ∧ Hid (LR w wr b5 base ps rs s r olds (.slice oA olds.length oc))) (fun _ vi _ => l.length - (intOf vi).toNat)
  case atStart => exact ⟨0, [], none, 0, base0, psI, rsI, s0, s0, Nat.zero_le _, rfl, rfl, HST⟩
  case round =>
    clear HST
    obtain ⟨i, olds, oA, oc, base, ps, rs, s, r, hi, rfl, rfl, HLR⟩ := hrel
    by_cases hil : i < l.length
    · have hiz : (i : Int) < l.length := by omega
      obtain ⟨b, o, rfl, hbw, hxx⟩ := HL.out.2 i l[i] (List.getElem?_eq_getElem hil)
      obtain ⟨hcr, hcl⟩ := HRG.out l[i] (List.getElem_mem hil)
      have HCR := Lib.hid hcr
      have HCL := Lib.hid hcl
      have HX := Lib.hid hxx
      have HBW := Lib.hid hbw
      have HIL := Lib.hid hil
      clear hcr hcl hxx
      generalize l[i] = x at *
      obtain ⟨kA, kc, hk1, hk2⟩ := HX.out.key
      obtain ⟨cA, cc, hc1, hc2⟩ := HX.out.cells
      -- what the step shows, in each world that keeps what came in
      have hkx : ∀ W, Below w.heap.size w W → W.cell? ⟨b, o + i * 4, none⟩ = some (.int .i64 x.kind) ∧ W.cell? ⟨b, o + i * 4 + 1, none⟩ = some (.slice kA x.key.length kc) ∧ W.cell? ⟨b, o + i * 4 + 2, none⟩ = some (.int .i64 x.n) ∧ W.cell? ⟨b, o + i * 4 + 3, none⟩ = some (.slice cA x.cells.length cc) := fun W hW => by
        have e : ∀ k, W.cell? ⟨b, k, none⟩ = w.cell? ⟨b, k, none⟩ := fun k => World.cell?_of_block (hW.block b hbw)
        exact ⟨(e _).trans HX.out.kind, (e _).trans hk1, (e _).trans HX.out.num, (e _).trans hc1⟩
      have HKX := Lib.hid hkx
      have HK2 := Lib.hid hk2
      have HC2 := Lib.hid hc2
      clear hkx hk1 hk2 hc1 hc2
      -- what follows the fork
      have q0 := (HKX.out wr HLR.out.below).1
      by_cases hfk : x.kind = 2 ∧ olds.length < 8
      · as_aux_lemma =>
        obtain ⟨hkd, holds⟩ := hfk
        have hoz : (olds.length : Int) < 8 := by omega
        rw [hkd] at q0
        have q1 := HLR.out.row.cell 0
        have q2 := HLR.out.row.cell 1
        simp only [duoC, List.getElem?_cons_succ, List.getElem?_cons_zero] at q1 q2
        obtain ⟨i0, hi0, hz0, hz1, hz2⟩ := info_parts infoOf108
        have HOW := Lib.hid (own_new HLR.out.own ((New.refl wr).alloc (.cells (duoC (ps, rs)).toArray 108)))
        have HEL := Lib.hid (elems_news wr 108 (duoC (ps, rs)))
        go_wp2_with (at_builtin; refine wpList_append_elems rfl _ _ 109 rfl w.heap.size 108 i0 (.agg #[.pointer none, .pointer none]) 2 16 Try.underlying109 hi0 hz0 hz1 hz2 rfl (by decide) _ _ _ rfl HOW.out (wr.heap.size + 1) _ 1 1 (duoC (ps, rs)) rfl HEL.out rfl (by simp [duoC, Value.oneCell']) ?c1 ?c2 ?c3 ?_)
        case c1 => unfold maxLen; omega
        case c2 => omega
        case c3 => have := HLR.out.below.size; simp; omega
        intro v' wq ho hg hloc
        obtain ⟨oA2, oc2, rfl⟩ := own_form ho
        have hKPq : KP wr wq := ((New.refl wr).alloc _).kp.trans (KP.grown HOW.out hg)
        have hbl0 : Below w.heap.size w (wr.alloc (.cells (duoC (ps, rs)).toArray 108)) := HLR.out.below.trans (((New.refl wr).alloc _).below HLR.out.below.size)
        have hblq : Below w.heap.size w wq := hbl0.grown hg hbl0.size (fun j hj => (own_row HOW.out hj).1)
        have hszq : wr.heap.size ≤ wq.heap.size := Nat.le_trans (by simp) hg.size
        have hrowq : Row wq b5 108 (duoC (ps, rs)) := by
          have h1 := HLR.out.row.alloc (.cells (duoC (ps, rs)).toArray 108)
          exact (hg.block b5 h1.lt (fun e => HLR.out.apart e.symm)).trans h1
        have hapart : (Value.slice oA2 (olds.length + 1) oc2).ownBlock ≠ some b5 := fun e => by
          rcases hloc with h | h
          · rw [h] at e; exact HLR.out.apart e
          · rw [h] at e
            injection e with e
            have := HLR.out.row.lt
            first | omega | (simp at e; omega)
        have hown : wq.ownsRow w.heap.size 108 2 (.slice oA2 (olds.length + 1) oc2) (olds ++ [(ps, rs)]).length (duoRow (olds ++ [(ps, rs)])) := by
          rw [List.length_append, List.length_singleton, show duoRow (olds ++ [(ps, rs)]) = duoRow olds ++ duoC (ps, rs) by simp [duoRow]]
          exact ho
        have HOWN := Lib.hid hown
        have HAP := Lib.hid hapart
        have HROWQ := Lib.hid hrowq
        have HKP := Lib.hid hKPq
        have HBLQ := Lib.hid hblq
        have HSZQ := Lib.hid hszq
        have P0 : Hid (∀ W, New wq W → W.cell? ⟨b5, 0, none⟩ = some (.pointer (some ⟨ps, 0, none⟩))) := Lib.hid fun W h => (h.row HROWQ.out).cell 0
        have P1 : Hid (∀ W, New wq W → W.cell? ⟨b5, 1, none⟩ = some (.pointer (some ⟨rs, 0, none⟩))) := Lib.hid fun W h => (h.row HROWQ.out).cell 1
        have PF : Hid (∀ W, New wq W → W.frozen? ⟨b5, 0, none⟩ = false ∧ W.frozen? ⟨b5, 1, none⟩ = false ∧ W.cell? ⟨b5, 0, none⟩ = some (.pointer (some ⟨ps, 0, none⟩)) ∧ W.cell? ⟨b5, 1, none⟩ = some (.pointer (some ⟨rs, 0, none⟩))) := Lib.hid fun W h => ⟨(h.row HROWQ.out).free 0, (h.row HROWQ.out).free 1, P0.out W h, P1.out W h⟩
        have FK : Hid (∀ W, New wq W → Calls Try.prog 59 #[.pointer (some ⟨ps, 0, none⟩)] W fun e w' => ∃ p, e = .returned (.pointer (some ⟨p, 0, none⟩)) ∧ StoreAt wq.heap.size w' p s ∧ New W w') :=
          Lib.hid fun W h => (fork_any W ((HLR.out.st.kp HKP.out).new h)).mono fun e w' ⟨p, h1, h2, h3⟩ => ⟨p, h1, h2.lower h.size, h3⟩
        have RFK : Hid (∀ W, New wq W → Calls Try.prog 62 #[.pointer (some ⟨rs, 0, none⟩)] W fun e w' => ∃ p, e = .returned (.pointer (some ⟨p, 0, none⟩)) ∧ RStoreAt wq.heap.size w' p r ∧ New W w') :=
          Lib.hid fun W h => (rfork_any W ((HLR.out.rst.kp HKP.out).new h)).mono fun e w' ⟨p, h1, h2, h3⟩ => ⟨p, h1, h2.lower h.size, h3⟩
        have HHD := Lib.hid holds
        clear ho hg hloc hKPq hbl0 hblq hszq hrowq hapart hown HOW HEL q0 q1 q2
        go_wp2_with fail
        refine start_ (n := 8) (S := fun W => New wq W) (ds := [7]) #[false, false, false, false, false, false, false, false] (by kernel_rfl) rfl rfl (New.refl wq).drew (fun hHeld => ?_); refine with_tabW r12aTab r12aBits (fun HT_ HW_ => ?_)
        have HQD : Hid (New wq wq.drew) := Lib.hid (New.refl wq).drew
        generalize wq.drew = wd at hHeld HQD ⊢
        refine pure_ (i := 0) (N := some 37) (v := ?_) (a' := ?_) #[true, false, false, false, false, false, false, false] rfl rfl (any_of HT_.out (by kernel_rfl)) (fun _ _ _ h => h) (Or.inl ⟨by rfl, ?_⟩) ?_ ?_
        rotate_left
        · intro w'
          go_simp
          with_reducible rfl
        rotate_left
        · simp only [Act.put, List.setIfInBounds_toArray, List.set_cons_zero, List.set_cons_succ]
          rfl
        refine pure_ (i := 3) (N := some 40) (v := ?_) (a' := ?_) #[true, false, false, true, false, false, false, false] rfl rfl (any_of HT_.out (by kernel_rfl)) (fun _ _ _ h => h) (Or.inl ⟨by rfl, ?_⟩) ?_ ?_
        rotate_left
        · intro w'
          go_simp
          with_reducible rfl
        rotate_left
        · simp only [Act.put, List.setIfInBounds_toArray, List.set_cons_zero, List.set_cons_succ]
          rfl
        refine take_ (i := 1) (N := some 38) (v := ?_) (a' := ?_) #[true, true, false, true, false, false, false, false] rfl rfl (take_ofW HT_.out HW_.out (by kernel_rfl)) (fun _ _ _ h => h) (Or.inl ⟨by rfl, ?_⟩) hHeld ?_ ?_
        rotate_left
        · intro w' hkt
          have s0 := P0.out w' hkt
          have s1 := P1.out w' hkt
          go_simp
          with_reducible rfl
        rotate_left
        · simp only [Act.put, List.setIfInBounds_toArray, List.set_cons_zero, List.set_cons_succ]
          rfl
        refine take_ (i := 4) (N := some 41) (v := ?_) (a' := ?_) #[true, true, false, true, true, false, false, false] rfl rfl (take_ofW HT_.out HW_.out (by kernel_rfl)) (fun _ _ _ h => h) (Or.inl ⟨by rfl, ?_⟩) hHeld ?_ ?_
        rotate_left
        · intro w' hkt
          have s0 := P0.out w' hkt
          have s1 := P1.out w' hkt
          go_simp
          with_reducible rfl
        rotate_left
        · simp only [Act.put, List.setIfInBounds_toArray, List.set_cons_zero, List.set_cons_succ]
          rfl
        refine one_ (i := 2) (N := some 39) #[true, true, true, true, true, false, false, false] rfl rfl (one_of HT_.out (by kernel_rfl)) (by decide) (fun K hK => ?_)
        refine goes_ Try.func59 (by kernel_rfl) rfl #[.pointer (some ⟨ps, 0, none⟩)] (by rfl) rfl rfl (by (try simp only [List.map_toArray, List.map_cons, List.map_nil]); first | done | rfl) ?_
        refine (FK.out wd hHeld).mono ?_
        rintro e wf ⟨ps2, rfl, hsf, hnf⟩
        refine ⟨_, rfl, ?_⟩
        refine hK.out _ _ (hHeld.trans hnf) (fun hHeld => ?_)
        clear hK K
        refine norm_ (a' := ?_) ?_ ?_
        rotate_left
        · show Act.put _ (some 39) _ = _
          simp only [Act.put, List.setIfInBounds_toArray, List.set_cons_zero, List.set_cons_succ]
          rfl
        have HSF := Lib.hid hsf
        have HNF := Lib.hid (HQD.out.trans hnf)
        clear hsf hnf
        refine one_ (i := 5) (N := some 42) #[true, true, true, true, true, true, false, false] rfl rfl (one_of HT_.out (by kernel_rfl)) (by decide) (fun K hK => ?_)
        refine goes_ Try.func62 (by kernel_rfl) rfl #[.pointer (some ⟨rs, 0, none⟩)] (by rfl) rfl rfl (by (try simp only [List.map_toArray, List.map_cons, List.map_nil]); first | done | rfl) ?_
        refine (RFK.out wf hHeld).mono ?_
        rintro e wg ⟨rs2, rfl, hsg, hng⟩
        refine ⟨_, rfl, ?_⟩
        refine hK.out _ _ (hHeld.trans hng) (fun hHeld => ?_)
        clear hK K
        refine norm_ (a' := ?_) ?_ ?_
        rotate_left
        · show Act.put _ (some 42) _ = _
          simp only [Act.put, List.setIfInBounds_toArray, List.set_cons_zero, List.set_cons_succ]
          rfl
        have HSG := Lib.hid hsg
        have HSF2 := Lib.hid (HSF.out.new hng)
        have HNG := Lib.hid (HNF.out.trans hng)
        clear hsg hng
        refine pure_ (i := 6) (N := some 43) (v := ?_) (a' := ?_) #[true, true, true, true, true, true, true, false] rfl rfl (any_of HT_.out (by kernel_rfl)) (fun _ _ _ h => h) (Or.inl ⟨by rfl, ?_⟩) ?_ ?_
        rotate_left
        · intro w'
          go_simp
          with_reducible rfl
        rotate_left
        · simp only [Act.put, List.setIfInBounds_toArray, List.set_cons_zero, List.set_cons_succ]
          rfl
        obtain ⟨f0, f1, z0, z1⟩ := PF.out wg hHeld
        refine last_ (i := 7) (N := none) #[true, true, true, true, true, true, true, true] rfl rfl (one_of HT_.out (by kernel_rfl)) (by decide) (fun K hK => ?_)
        refine skip_ (w1 := (wg.setCell ⟨b5, 0, none⟩ (.pointer (some ⟨ps2, 0, none⟩))).setCell ⟨b5, 1, none⟩ (.pointer (some ⟨rs2, 0, none⟩))) (by rfl) rfl (by go_simp) ?_
        refine hK.out _ _ ?_
        clear hK K
        refine done_ (done_of HT_.out (by kernel_rfl)) ?_
        have hk1 := HKP.out.trans HNG.out.kp
        have hrg := HNG.out.row HROWQ.out
        have hk2 := hk1.set hrg 0 (.pointer (some ⟨ps2, 0, none⟩))
        have hrg2 := hrg.set 0 (.pointer (some ⟨ps2, 0, none⟩))
        have hk3 := hk2.set hrg2 1 (.pointer (some ⟨rs2, 0, none⟩))
        have hrg3 := hrg2.set 1 (.pointer (some ⟨rs2, 0, none⟩))
        have hkg : KP wg ((wg.setCell ⟨b5, 0, none⟩ (.pointer (some ⟨ps2, 0, none⟩))).setCell ⟨b5, 1, none⟩ (.pointer (some ⟨rs2, 0, none⟩))) := ((KP.refl wg).set hrg 0 _).set hrg2 1 _
        have hlx : LR w ((wg.setCell ⟨b5, 0, none⟩ (.pointer (some ⟨ps2, 0, none⟩))).setCell ⟨b5, 1, none⟩ (.pointer (some ⟨rs2, 0, none⟩))) b5 wq.heap.size ps2 rs2 s r (olds ++ [(ps, rs)]) (.slice oA2 (olds.length + 1) oc2) := by
          refine ⟨HBLQ.out.size, ?_, HSF2.out.kp hkg, HSG.out.kp hkg, HLR.out.tw, hrg3, HLR.out.lowb, ?_, ?_, HAP.out, ?_, ?_⟩
          · simpa using HNG.out.size
          · exact own_keep (own_new HOWN.out HNG.out) fun g hg => by
              have hne : g ≠ b5 := fun e => HAP.out (by rw [hg, e])
              rw [heap_setCell_other _ ⟨b5, 1, none⟩ g _ hne, heap_setCell_other _ ⟨b5, 0, none⟩ g _ hne]
          · rw [List.length_append, List.length_singleton]; exact HHD.out
          · intro p hp
            rcases List.mem_append.1 hp with hp | hp
            · exact (HLR.out.old p hp).kp hk3 (Nat.le_trans HLR.out.size HSZQ.out)
            · rw [List.mem_singleton] at hp
              subst hp
              exact ⟨wr, base, s, r, HSZQ.out, HLR.out.st, HLR.out.rst, HLR.out.tw, hk3⟩
          · exact ((HBLQ.out.trans (HNG.out.below HBLQ.out.size)).setCell (p := ⟨b5, 0, none⟩) HLR.out.lowb _).setCell (p := ⟨b5, 1, none⟩) HLR.out.lowb _
        have HLX0 := Lib.hid hlx
        clear hk1 hrg hk2 hrg2 hk3 hrg3 hkg hlx FK RFK PF P0 P1 HOWN HAP HROWQ HKP HBLQ HSZQ HNF HNG HSF HSF2 HSG HQD hHeld
        generalize (wg.setCell ⟨b5, 0, none⟩ (.pointer (some ⟨ps2, 0, none⟩))).setCell ⟨b5, 1, none⟩ (.pointer (some ⟨rs2, 0, none⟩)) = wx at *
        generalize wq.heap.size = base2 at *
        have HLX := HLX0
        clear HLX0 hkd
        have HPS : Hid (PS base2 wx wx ps2 rs2) := Lib.hid ⟨(New.refl wx).bs HLX.out.size, s, r, HLX.out.st, HLX.out.rst, HLX.out.tw⟩
        have B01 : ∀ W, PS base2 wx W ps2 rs2 → Row W b5 108 (duoC (ps2, rs2)) := fun W h => HLX.out.row.sk h.1.k (by decide) (by decide) (by decide) (by decide)
        have B0 : Hid (∀ W, PS base2 wx W ps2 rs2 → W.cell? ⟨b5, 0, none⟩ = some (.pointer (some ⟨ps2, 0, none⟩))) := Lib.hid fun W h => (B01 W h).cell 0
        have B1 : Hid (∀ W, PS base2 wx W ps2 rs2 → W.cell? ⟨b5, 1, none⟩ = some (.pointer (some ⟨rs2, 0, none⟩))) := Lib.hid fun W h => (B01 W h).cell 1
        have KX := Lib.hid (fun W (h : PS base2 wx W ps2 rs2) => HKX.out W (HLX.out.below.trans (h.1.b.mono HLX.out.low)))
        have STEP : Hid (∀ W, PS base2 wx W ps2 rs2 → Calls Try.prog 63 #[.agg #[.pointer (some ⟨ps2, 0, none⟩), .pointer (some ⟨rs2, 0, none⟩)], .agg #[.int .i64 x.kind, .slice kA x.key.length kc, .int .i64 x.n, .slice cA x.cells.length cc]] W fun e w' => e = .returned (.bool true) ∧ PS base2 wx w' ps2 rs2) := Lib.hid fun W h => by
          obtain ⟨h1, s2, r2, h2, h3, h4⟩ := h
          have hbW : Below w.heap.size w W := HLX.out.below.trans (h1.b.mono HLX.out.low)
          refine (step_any W h2 h3 h4 (Nat.le_trans HLX.out.size h1.size) x kA cA kc cc ((HK2.out.below hbW).mono HLX.out.low) HX.out.bytes HX.out.len ((HC2.out.below hbW).mono HLX.out.low) HCR.out HCL.out).mono ?_
          rintro e w' ⟨h5, s3, r3, h6, h7, h8, h9⟩
          exact ⟨h5, h1.trans h9, s3, r3, h6, h7, h8⟩
        clear B01
        go_wp2_with fail
        refine start_ (n := 7) (S := fun W => PS base2 wx W ps2 rs2) (ds := []) #[false, false, false, false, false, false, false] (by kernel_rfl) rfl rfl HPS.out.drew (fun hHeld => ?_); refine with_tabW r12bTab r12bBits (fun HT_ HW_ => ?_)
        generalize wx.drew = wd at hHeld ⊢
        refine pure_ (i := 1) (N := some 45) (v := ?_) (a' := ?_) #[false, true, false, false, false, false, false] rfl rfl (any_of HT_.out (by kernel_rfl)) (fun _ _ _ h => h) (Or.inl ⟨by rfl, ?_⟩) ?_ ?_
        rotate_left
        · intro w'
          go_simp
          with_reducible rfl
        rotate_left
        · simp only [Act.put, List.setIfInBounds_toArray, List.set_cons_zero, List.set_cons_succ]
          rfl
        refine pure_ (i := 2) (N := some 46) (v := ?_) (a' := ?_) #[false, true, true, false, false, false, false] rfl rfl (any_of HT_.out (by kernel_rfl)) (fun _ _ _ h => h) (Or.inl ⟨by rfl, ?_⟩) ?_ ?_
        rotate_left
        · intro w'
          go_simp
          with_reducible rfl
        rotate_left
        · simp only [Act.put, List.setIfInBounds_toArray, List.set_cons_zero, List.set_cons_succ]
          rfl
        refine pure_ (i := 3) (N := some 47) (v := ?_) (a' := ?_) #[false, true, true, true, false, false, false] rfl rfl (any_of HT_.out (by kernel_rfl)) (fun _ _ _ h => h) (Or.inl ⟨by rfl, ?_⟩) ?_ ?_
        rotate_left
        · intro w'
          go_simp
          with_reducible rfl
        rotate_left
        · simp only [Act.put, List.setIfInBounds_toArray, List.set_cons_zero, List.set_cons_succ]
          rfl
        refine take_ (i := 0) (N := some 44) (v := ?_) (a' := ?_) #[true, true, true, true, false, false, false] rfl rfl (take_ofW HT_.out HW_.out (by kernel_rfl)) (fun _ _ _ h => h) (Or.inl ⟨by rfl, ?_⟩) hHeld ?_ ?_
        rotate_left
        · intro w' hkt
          have s0 := B0.out w' hkt
          have s1 := B1.out w' hkt
          obtain ⟨k0, k1, k2, k3⟩ := KX.out w' hkt
          go_simp
          with_reducible rfl
        rotate_left
        · simp only [Act.put, List.setIfInBounds_toArray, List.set_cons_zero, List.set_cons_succ]
          rfl
        refine take_ (i := 4) (N := some 48) (v := ?_) (a' := ?_) #[true, true, true, true, true, false, false] rfl rfl (take_ofW HT_.out HW_.out (by kernel_rfl)) (fun _ _ _ h => h) (Or.inl ⟨by rfl, ?_⟩) hHeld ?_ ?_
        rotate_left
        · intro w' hkt
          have s0 := B0.out w' hkt
          have s1 := B1.out w' hkt
          obtain ⟨k0, k1, k2, k3⟩ := KX.out w' hkt
          go_simp
          with_reducible rfl
        rotate_left
        · simp only [Act.put, List.setIfInBounds_toArray, List.set_cons_zero, List.set_cons_succ]
          rfl
        refine one_ (i := 5) (N := some 49) #[true, true, true, true, true, true, false] rfl rfl (one_of HT_.out (by kernel_rfl)) (by decide) (fun K hK => ?_)
        refine goes_ Try.func63 (by kernel_rfl) rfl #[.agg #[.pointer (some ⟨ps2, 0, none⟩), .pointer (some ⟨rs2, 0, none⟩)], .agg #[.int .i64 x.kind, .slice kA x.key.length kc, .int .i64 x.n, .slice cA x.cells.length cc]] (by rfl) rfl rfl (by (try simp only [List.map_toArray, List.map_cons, List.map_nil]); first | done | rfl) ?_
        refine (STEP.out wd hHeld).mono ?_
        rintro e wy ⟨rfl, hps2⟩
        refine ⟨_, rfl, ?_⟩
        refine hK.out _ _ hps2 (fun hHeld => ?_)
        clear hK K
        refine norm_ (a' := ?_) ?_ ?_
        rotate_left
        · show Act.put _ (some 49) _ = _
          simp only [Act.put, List.setIfInBounds_toArray, List.set_cons_zero, List.set_cons_succ]
          rfl
        refine pure_ (i := 6) (N := some 50) (v := ?_) (a' := ?_) #[true, true, true, true, true, true, true] rfl rfl (any_of HT_.out (by kernel_rfl)) (fun _ _ _ h => h) (Or.inl ⟨by rfl, ?_⟩) ?_ ?_
        rotate_left
        · intro w'
          go_simp
          with_reducible rfl
        rotate_left
        · simp only [Act.put, List.setIfInBounds_toArray, List.set_cons_zero, List.set_cons_succ]
          rfl
        refine done_ (done_of HT_.out (by kernel_rfl)) ?_
        obtain ⟨hbs, s3, r3, h31, h32, h33⟩ := hHeld
        have HLF := Lib.hid (HLX.out.step hbs h31 h32 h33)
        clear hbs h31 h32 h33 hps2
        go_wp2_with fail
        refine ⟨⟨i + 1, olds ++ [(ps, rs)], _, _, base2, ps2, rs2, s3, r3, HIL.out, by go_num, by rw [List.length_append, List.length_singleton], Lib.hid (by rw [List.length_append, List.length_singleton]; exact HLF.out)⟩, by have := HIL.out; simp [intOf] <;> omega⟩
      · by_cases hkd : x.kind = 2
        · as_aux_lemma =>
          have hoz : ¬ (olds.length : Int) < 8 := fun h => hfk ⟨hkd, by omega⟩
          rw [hkd] at q0
          clear hkd hfk
          have HPS : Hid (PS base wr wr ps rs) := Lib.hid ⟨(New.refl wr).bs HLR.out.size, s, r, HLR.out.st, HLR.out.rst, HLR.out.tw⟩
          have B01 : ∀ W, PS base wr W ps rs → Row W b5 108 (duoC (ps, rs)) := fun W h => HLR.out.row.sk h.1.k (by decide) (by decide) (by decide) (by decide)
          have B0 : Hid (∀ W, PS base wr W ps rs → W.cell? ⟨b5, 0, none⟩ = some (.pointer (some ⟨ps, 0, none⟩))) := Lib.hid fun W h => (B01 W h).cell 0
          have B1 : Hid (∀ W, PS base wr W ps rs → W.cell? ⟨b5, 1, none⟩ = some (.pointer (some ⟨rs, 0, none⟩))) := Lib.hid fun W h => (B01 W h).cell 1
          have KX := Lib.hid (fun W (h : PS base wr W ps rs) => HKX.out W (HLR.out.below.trans (h.1.b.mono HLR.out.low)))
          have STEP : Hid (∀ W, PS base wr W ps rs → Calls Try.prog 63 #[.agg #[.pointer (some ⟨ps, 0, none⟩), .pointer (some ⟨rs, 0, none⟩)], .agg #[.int .i64 x.kind, .slice kA x.key.length kc, .int .i64 x.n, .slice cA x.cells.length cc]] W fun e w' => e = .returned (.bool true) ∧ PS base wr w' ps rs) := Lib.hid fun W h => by
            obtain ⟨h1, s2, r2, h2, h3, h4⟩ := h
            have hbW : Below w.heap.size w W := HLR.out.below.trans (h1.b.mono HLR.out.low)
            refine (step_any W h2 h3 h4 (Nat.le_trans HLR.out.size h1.size) x kA cA kc cc ((HK2.out.below hbW).mono HLR.out.low) HX.out.bytes HX.out.len ((HC2.out.below hbW).mono HLR.out.low) HCR.out HCL.out).mono ?_
            rintro e w' ⟨h5, s3, r3, h6, h7, h8, h9⟩
            exact ⟨h5, h1.trans h9, s3, r3, h6, h7, h8⟩
          clear B01
          go_wp2_with fail
          refine start_ (n := 7) (S := fun W => PS base wr W ps rs) (ds := []) #[false, false, false, false, false, false, false] (by kernel_rfl) rfl rfl HPS.out.drew (fun hHeld => ?_); refine with_tabW r12bTab r12bBits (fun HT_ HW_ => ?_)
          generalize wr.drew = wd at hHeld ⊢
          refine pure_ (i := 1) (N := some 45) (v := ?_) (a' := ?_) #[false, true, false, false, false, false, false] rfl rfl (any_of HT_.out (by kernel_rfl)) (fun _ _ _ h => h) (Or.inl ⟨by rfl, ?_⟩) ?_ ?_
          rotate_left
          · intro w'
            go_simp
            with_reducible rfl
          rotate_left
          · simp only [Act.put, List.setIfInBounds_toArray, List.set_cons_zero, List.set_cons_succ]
            rfl
          refine pure_ (i := 2) (N := some 46) (v := ?_) (a' := ?_) #[false, true, true, false, false, false, false] rfl rfl (any_of HT_.out (by kernel_rfl)) (fun _ _ _ h => h) (Or.inl ⟨by rfl, ?_⟩) ?_ ?_
          rotate_left
          · intro w'
            go_simp
            with_reducible rfl
          rotate_left
          · simp only [Act.put, List.setIfInBounds_toArray, List.set_cons_zero, List.set_cons_succ]
            rfl
          refine pure_ (i := 3) (N := some 47) (v := ?_) (a' := ?_) #[false, true, true, true, false, false, false] rfl rfl (any_of HT_.out (by kernel_rfl)) (fun _ _ _ h => h) (Or.inl ⟨by rfl, ?_⟩) ?_ ?_
          rotate_left
          · intro w'
            go_simp
            with_reducible rfl
          rotate_left
          · simp only [Act.put, List.setIfInBounds_toArray, List.set_cons_zero, List.set_cons_succ]
            rfl
          refine take_ (i := 0) (N := some 44) (v := ?_) (a' := ?_) #[true, true, true, true, false, false, false] rfl rfl (take_ofW HT_.out HW_.out (by kernel_rfl)) (fun _ _ _ h => h) (Or.inl ⟨by rfl, ?_⟩) hHeld ?_ ?_
          rotate_left
          · intro w' hkt
            have s0 := B0.out w' hkt
            have s1 := B1.out w' hkt
            obtain ⟨k0, k1, k2, k3⟩ := KX.out w' hkt
            go_simp
            with_reducible rfl
          rotate_left
          · simp only [Act.put, List.setIfInBounds_toArray, List.set_cons_zero, List.set_cons_succ]
            rfl
          refine take_ (i := 4) (N := some 48) (v := ?_) (a' := ?_) #[true, true, true, true, true, false, false] rfl rfl (take_ofW HT_.out HW_.out (by kernel_rfl)) (fun _ _ _ h => h) (Or.inl ⟨by rfl, ?_⟩) hHeld ?_ ?_
          rotate_left
          · intro w' hkt
            have s0 := B0.out w' hkt
            have s1 := B1.out w' hkt
            obtain ⟨k0, k1, k2, k3⟩ := KX.out w' hkt
            go_simp
            with_reducible rfl
          rotate_left
          · simp only [Act.put, List.setIfInBounds_toArray, List.set_cons_zero, List.set_cons_succ]
            rfl
          refine one_ (i := 5) (N := some 49) #[true, true, true, true, true, true, false] rfl rfl (one_of HT_.out (by kernel_rfl)) (by decide) (fun K hK => ?_)
          refine goes_ Try.func63 (by kernel_rfl) rfl #[.agg #[.pointer (some ⟨ps, 0, none⟩), .pointer (some ⟨rs, 0, none⟩)], .agg #[.int .i64 x.kind, .slice kA x.key.length kc, .int .i64 x.n, .slice cA x.cells.length cc]] (by rfl) rfl rfl (by (try simp only [List.map_toArray, List.map_cons, List.map_nil]); first | done | rfl) ?_
          refine (STEP.out wd hHeld).mono ?_
          rintro e wy ⟨rfl, hps2⟩
          refine ⟨_, rfl, ?_⟩
          refine hK.out _ _ hps2 (fun hHeld => ?_)
          clear hK K
          refine norm_ (a' := ?_) ?_ ?_
          rotate_left
          · show Act.put _ (some 49) _ = _
            simp only [Act.put, List.setIfInBounds_toArray, List.set_cons_zero, List.set_cons_succ]
            rfl
          refine pure_ (i := 6) (N := some 50) (v := ?_) (a' := ?_) #[true, true, true, true, true, true, true] rfl rfl (any_of HT_.out (by kernel_rfl)) (fun _ _ _ h => h) (Or.inl ⟨by rfl, ?_⟩) ?_ ?_
          rotate_left
          · intro w'
            go_simp
            with_reducible rfl
          rotate_left
          · simp only [Act.put, List.setIfInBounds_toArray, List.set_cons_zero, List.set_cons_succ]
            rfl
          refine done_ (done_of HT_.out (by kernel_rfl)) ?_
          obtain ⟨hbs, s3, r3, h31, h32, h33⟩ := hHeld
          have HLF := Lib.hid (HLR.out.step hbs h31 h32 h33)
          clear hbs h31 h32 h33 hps2
          go_wp2_with fail
          refine ⟨⟨i + 1, olds, _, _, base, ps, rs, s3, r3, HIL.out, by go_num, rfl, HLF⟩, by have := HIL.out; simp [intOf] <;> omega⟩
        · as_aux_lemma =>
          have hkb : (x.kind == 2) = false := by simpa using hkd
          clear hkd hfk
          have HPS : Hid (PS base wr wr ps rs) := Lib.hid ⟨(New.refl wr).bs HLR.out.size, s, r, HLR.out.st, HLR.out.rst, HLR.out.tw⟩
          have B01 : ∀ W, PS base wr W ps rs → Row W b5 108 (duoC (ps, rs)) := fun W h => HLR.out.row.sk h.1.k (by decide) (by decide) (by decide) (by decide)
          have B0 : Hid (∀ W, PS base wr W ps rs → W.cell? ⟨b5, 0, none⟩ = some (.pointer (some ⟨ps, 0, none⟩))) := Lib.hid fun W h => (B01 W h).cell 0
          have B1 : Hid (∀ W, PS base wr W ps rs → W.cell? ⟨b5, 1, none⟩ = some (.pointer (some ⟨rs, 0, none⟩))) := Lib.hid fun W h => (B01 W h).cell 1
          have KX := Lib.hid (fun W (h : PS base wr W ps rs) => HKX.out W (HLR.out.below.trans (h.1.b.mono HLR.out.low)))
          have STEP : Hid (∀ W, PS base wr W ps rs → Calls Try.prog 63 #[.agg #[.pointer (some ⟨ps, 0, none⟩), .pointer (some ⟨rs, 0, none⟩)], .agg #[.int .i64 x.kind, .slice kA x.key.length kc, .int .i64 x.n, .slice cA x.cells.length cc]] W fun e w' => e = .returned (.bool true) ∧ PS base wr w' ps rs) := Lib.hid fun W h => by
            obtain ⟨h1, s2, r2, h2, h3, h4⟩ := h
            have hbW : Below w.heap.size w W := HLR.out.below.trans (h1.b.mono HLR.out.low)
            refine (step_any W h2 h3 h4 (Nat.le_trans HLR.out.size h1.size) x kA cA kc cc ((HK2.out.below hbW).mono HLR.out.low) HX.out.bytes HX.out.len ((HC2.out.below hbW).mono HLR.out.low) HCR.out HCL.out).mono ?_
            rintro e w' ⟨h5, s3, r3, h6, h7, h8, h9⟩
            exact ⟨h5, h1.trans h9, s3, r3, h6, h7, h8⟩
          clear B01
          go_wp2_with fail
          refine start_ (n := 7) (S := fun W => PS base wr W ps rs) (ds := []) #[false, false, false, false, false, false, false] (by kernel_rfl) rfl rfl HPS.out.drew (fun hHeld => ?_); refine with_tabW r12bTab r12bBits (fun HT_ HW_ => ?_)
          generalize wr.drew = wd at hHeld ⊢
          refine pure_ (i := 1) (N := some 45) (v := ?_) (a' := ?_) #[false, true, false, false, false, false, false] rfl rfl (any_of HT_.out (by kernel_rfl)) (fun _ _ _ h => h) (Or.inl ⟨by rfl, ?_⟩) ?_ ?_
          rotate_left
          · intro w'
            go_simp
            with_reducible rfl
          rotate_left
          · simp only [Act.put, List.setIfInBounds_toArray, List.set_cons_zero, List.set_cons_succ]
            rfl
          refine pure_ (i := 2) (N := some 46) (v := ?_) (a' := ?_) #[false, true, true, false, false, false, false] rfl rfl (any_of HT_.out (by kernel_rfl)) (fun _ _ _ h => h) (Or.inl ⟨by rfl, ?_⟩) ?_ ?_
          rotate_left
          · intro w'
            go_simp
            with_reducible rfl
          rotate_left
          · simp only [Act.put, List.setIfInBounds_toArray, List.set_cons_zero, List.set_cons_succ]
            rfl
          refine pure_ (i := 3) (N := some 47) (v := ?_) (a' := ?_) #[false, true, true, true, false, false, false] rfl rfl (any_of HT_.out (by kernel_rfl)) (fun _ _ _ h => h) (Or.inl ⟨by rfl, ?_⟩) ?_ ?_
          rotate_left
          · intro w'
            go_simp
            with_reducible rfl
          rotate_left
          · simp only [Act.put, List.setIfInBounds_toArray, List.set_cons_zero, List.set_cons_succ]
            rfl
          refine take_ (i := 0) (N := some 44) (v := ?_) (a' := ?_) #[true, true, true, true, false, false, false] rfl rfl (take_ofW HT_.out HW_.out (by kernel_rfl)) (fun _ _ _ h => h) (Or.inl ⟨by rfl, ?_⟩) hHeld ?_ ?_
          rotate_left
          · intro w' hkt
            have s0 := B0.out w' hkt
            have s1 := B1.out w' hkt
            obtain ⟨k0, k1, k2, k3⟩ := KX.out w' hkt
            go_simp
            with_reducible rfl
          rotate_left
          · simp only [Act.put, List.setIfInBounds_toArray, List.set_cons_zero, List.set_cons_succ]
            rfl
          refine take_ (i := 4) (N := some 48) (v := ?_) (a' := ?_) #[true, true, true, true, true, false, false] rfl rfl (take_ofW HT_.out HW_.out (by kernel_rfl)) (fun _ _ _ h => h) (Or.inl ⟨by rfl, ?_⟩) hHeld ?_ ?_
          rotate_left
          · intro w' hkt
            have s0 := B0.out w' hkt
            have s1 := B1.out w' hkt
            obtain ⟨k0, k1, k2, k3⟩ := KX.out w' hkt
            go_simp
            with_reducible rfl
          rotate_left
          · simp only [Act.put, List.setIfInBounds_toArray, List.set_cons_zero, List.set_cons_succ]
            rfl
          refine one_ (i := 5) (N := some 49) #[true, true, true, true, true, true, false] rfl rfl (one_of HT_.out (by kernel_rfl)) (by decide) (fun K hK => ?_)
          refine goes_ Try.func63 (by kernel_rfl) rfl #[.agg #[.pointer (some ⟨ps, 0, none⟩), .pointer (some ⟨rs, 0, none⟩)], .agg #[.int .i64 x.kind, .slice kA x.key.length kc, .int .i64 x.n, .slice cA x.cells.length cc]] (by rfl) rfl rfl (by (try simp only [List.map_toArray, List.map_cons, List.map_nil]); first | done | rfl) ?_
          refine (STEP.out wd hHeld).mono ?_
          rintro e wy ⟨rfl, hps2⟩
          refine ⟨_, rfl, ?_⟩
          refine hK.out _ _ hps2 (fun hHeld => ?_)
          clear hK K
          refine norm_ (a' := ?_) ?_ ?_
          rotate_left
          · show Act.put _ (some 49) _ = _
            simp only [Act.put, List.setIfInBounds_toArray, List.set_cons_zero, List.set_cons_succ]
            rfl
          refine pure_ (i := 6) (N := some 50) (v := ?_) (a' := ?_) #[true, true, true, true, true, true, true] rfl rfl (any_of HT_.out (by kernel_rfl)) (fun _ _ _ h => h) (Or.inl ⟨by rfl, ?_⟩) ?_ ?_
          rotate_left
          · intro w'
            go_simp
            with_reducible rfl
          rotate_left
          · simp only [Act.put, List.setIfInBounds_toArray, List.set_cons_zero, List.set_cons_succ]
            rfl
          refine done_ (done_of HT_.out (by kernel_rfl)) ?_
          obtain ⟨hbs, s3, r3, h31, h32, h33⟩ := hHeld
          have HLF := Lib.hid (HLR.out.step hbs h31 h32 h33)
          clear hbs h31 h32 h33 hps2
          go_wp2_with fail
          refine ⟨⟨i + 1, olds, _, _, base, ps, rs, s3, r3, HIL.out, by go_num, rfl, HLF⟩, by have := HIL.out; simp [intOf] <;> omega⟩
    · as_aux_lemma =>
      have hiz : ¬ (i : Int) < l.length := by omega
      go_wp2_with fail
      go_loopw [8] (fun vi wq => ∃ j : Nat, j ≤ olds.length ∧ vi = .int .i64 j ∧ Hid (New wr wq)) (fun vi _ => olds.length - (intOf vi).toNat)
      case atStart => exact ⟨0, Nat.zero_le _, rfl, Lib.hid (New.refl _)⟩
      case round =>
        obtain ⟨j, hj, rfl, HNJ⟩ := hrel
        have hfew8 := HLR.out.few
        by_cases hjl : j < olds.length
        · have hjz : (j : Int) < olds.length := by omega
          have hown := own_new HLR.out.own HNJ.out
          have hpc : ∃ g, oA = some ⟨g, 0, none⟩ ∧ wr.cell? ⟨g, j * 2, none⟩ = some (.pointer (some ⟨olds[j].1, 0, none⟩)) ∧ wr.cell? ⟨g, j * 2 + 1, none⟩ = some (.pointer (some ⟨olds[j].2, 0, none⟩)) := by
            rcases hown.2 with ⟨_, h0⟩ | ⟨g, cap, cur, hv, hb, hg, _, _, _, ht⟩
            · omega
            · injection hv with hA _ _
              subst hA
              have hc : ∀ k, k < 2 → wr.cell? ⟨g, j * 2 + k, none⟩ = (duoC olds[j])[k]? := fun k hk => by
                rw [cell_of_row wr g _ cur 108 (0, 0) hg, ← duoRow_get olds j hjl k hk, ← ht, List.getElem?_take, if_pos (by omega), Nat.mul_comm j 2]
                simp
              exact ⟨g, rfl, hc 0 (by omega), hc 1 (by omega)⟩
          obtain ⟨g, rfl, g1, g2⟩ := hpc
          obtain ⟨b', s', r', h1, h2, h3⟩ := ((HLR.out.old olds[j] (List.getElem_mem hjl)).kp HNJ.out.kp (Nat.le_refl _)).stores
          have AL := Lib.hid (alike_zp wr h1 h2 h3 none 0 [] (Elems.nil _ _ _) (fun x hx => by cases hx) (.pointer none) (.pointer none) none rfl rfl)
          have HJL := Lib.hid hjl
          clear h1 h2 h3 hown
          generalize olds[j].1 = p1 at *
          generalize olds[j].2 = p2 at *
          go_wp2_with fail
          refine AL.out.mono ?_
          rintro e wz ⟨rfl, hnz⟩
          have HNZ := Lib.hid (HNJ.out.trans hnz)
          clear hnz g1 g2
          go_wp2_with fail
          exact ⟨⟨j + 1, HJL.out, by go_num, HNZ⟩, by have := HJL.out; simp [intOf] <;> omega⟩
        · have hjz : ¬ (j : Int) < olds.length := by omega
          go_wp2_with fail
          go_ret
          exact ⟨rfl, HLR.out.below.trans (HNJ.out.below HLR.out.below.size)⟩
end Go.Proofs.Ytapfihlgemejiaa
