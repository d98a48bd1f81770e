/- reduce.Classes: the walk. -/
import Derived.Test.YtapfihlgemejiaaR3
import Derived.Test.YtapfihlgemejiaaM4
import Derived.Test.YtapfihlgemejiaaM5
import Derived.Test.YtapfihlgemejiaaO0
import Derived.Test.YtapfihlgemejiaaN20
import Derived.Deep.RegionLaw
import Derived.Deep.CutBlock
namespace Go.Proofs.Ytapfihlgemejiaa
open Go.RowKit Go.Proofs.YtapfihlgemejiaaW.PrintLast

/-- Cells that stand for numbers, or for none. -/
def Cells32 (z : Zn) : Prop := ∀ i j, i ≤ z.n → j ≤ z.n → gt z.Z (9 * i + j) = 2147483647 ∨ Fin32 (gt z.Z (9 * i + j))
def clsT : Bool × List (List Nat × List Nat) := (true, [([], []), ([], []), ([], []), ([1, 2], [1, 2]), ([], []), ([], []), ([], []), ([5, 6], [5, 6]), ([4, 7], [4, 7]), ([], []), ([9], [9]), ([8, 10], [8, 10]), ([0, 3, 11, 11, 0, 1, 2, 3, 4, 5, 6, 7, 8, 9, 10, 11], [0, 3, 11])])
def clsB : List Nat := [0, 0, 0, 6, 0, 0, 0, 96, 240, 0, 512, 2032, 4095]
theorem clsTab : rtab .any (opsOf Try.f70 18) = clsT := by kernel_rfl
theorem clsBits : waitsOk clsT.2 clsB = true := by kernel_rfl
set_option maxRecDepth 100000 in
set_option maxHeartbeats 4000000 in
theorem classes_any (b : Nat) (z : Zn) (w : World) (h : ZoneAt w b z) (he : emptyB z.Z = false) (hc : Cells32 z) :
    Calls Try.prog 70 #[.pointer (some ⟨b, 0, none⟩)] w fun e w' => ∃ v, e = .returned (.tuple #[v, .int .i64 0]) ∧ LolAt w.heap.size w' v (classesL z.Z z.n) ∧ New w w' := by
  have EM := Lib.hid (fun W (hn : New w W) => empty_any b z W (h.new hn))
  rw [he] at EM
  have DI := Lib.hid (fun W (hn : New w W) => dim_any b z W (h.new hn))
  have WA := Lib.hid (fun W (hn : New w W) x hh (hx : x ≤ z.n) (hy : hh ≤ z.n) => way_any b z x hh x W (h.new hn) hx hy hx (hc _ _ hx hy) (hc _ _ hy hx))
  have hdim := h.dim
  have hbl := h.row.lt
  clear he h
  go_enter Try.func70, Try.ntmps70
  go_wp2_with fail
  refine (EM.out _ (New.refl w)).mono ?_
  rintro e w' ⟨rfl, rfl⟩
  have hmm := @run_makeMap Try.prog
  go_wp2_with fail
  clear hmm
  refine (DI.out _ ((((New.refl w).alloc _).alloc _).alloc _)).mono ?_
  rintro e w' ⟨rfl, rfl⟩
  go_wp2_with fail
  go_loopw [26] (fun ci wr => ∃ m : Nat, m ≤ z.n + 1 ∧ ci = .int .i64 m ∧ Row wr w.heap.size 196 [.pointer (some ⟨b, 0, none⟩)] ∧ HeadsAt wr (w.heap.size + 1) z.Z m ∧ MemsAt w.heap.size wr (w.heap.size + 1 + 1) z.Z m ∧ New w wr)
    (fun cn _ => z.n + 1 - (intOf cn).toNat)
  case atStart =>
    refine ⟨0, by omega, rfl, ((Row.new_at w 196 [.pointer (some ⟨b, 0, none⟩)] rfl).alloc _).alloc _, ⟨[], ?_, fun y hy => absurd hy (Nat.not_lt_zero _)⟩, ⟨[], ?_, fun _ => .slice none 0 0, fun y => rfl, fun y => rfl, fun y => ⟨by rfl, .inl ⟨rfl, rfl⟩⟩, fun y y' g _ h => by cases h⟩, (((New.refl w).alloc _).alloc _).alloc _⟩
    · have h1 := (IMapAt.made (w.alloc (.cells #[.pointer (some ⟨b, 0, none⟩)] 196))).fr ((New.refl _).alloc (.map #[] 0)) (fun e => e)
      rw [show (w.alloc (.cells #[.pointer (some ⟨b, 0, none⟩)] 196)).heap.size = w.heap.size + 1 by simp] at h1
      exact h1
    · have h1 := IMapAt.made ((w.alloc (.cells #[.pointer (some ⟨b, 0, none⟩)] 196)).alloc (.map #[] 0))
      rw [show ((w.alloc (.cells #[.pointer (some ⟨b, 0, none⟩)] 196)).alloc (.map #[] 0)).heap.size = w.heap.size + 1 + 1 by simp] at h1
      exact h1
  case round =>
    rename World => wo
    obtain ⟨m, hm, rfl, hr, hh, hme, hn⟩ := hrel
    by_cases hlt : m < z.n + 1
    · have hmm : (m : Int) < z.n + 1 := by omega
      obtain ⟨ml, hml, hget⟩ := hh
      obtain ⟨w1, hmu, hm1, hat1⟩ := run_mapUpdate_int (P := Try.prog) hml 207 3 3 Try.underlying207 Try.underlying3 m (.int .i64 m)
      have c0 : wo.cell? ⟨w.heap.size, 0, none⟩ = some (.pointer (some ⟨b, 0, none⟩)) := hr.cell 0
      have HML := Lib.hid (And.intro hm1 (And.intro hat1 hget))
      have HME := Lib.hid hme
      have HN := Lib.hid hn
      have HMH := Lib.hid hml
      have HRR := Lib.hid hr
      clear hm1 hat1 hget hme hn hr hml
      go_upto_block 3 with (fail)
      go_cut [8] (fun _ w2 => HeadsAt w2 (w.heap.size + 1) z.Z (m + 1) ∧ At (w.heap.size + 1) wo w2)
      case first =>
        go_wp2_with fail
        go_loopw [33] (fun c wq => ∃ g : Nat, g ≤ m ∧ c = .int .i64 g ∧ (∀ i, i < g → tied z.Z m i = false) ∧ New w1 wq)
          (fun cn _ => m - (intOf cn).toNat)
        case atStart => exact ⟨0, Nat.zero_le _, rfl, fun i hi => absurd hi (Nat.not_lt_zero _), New.refl _⟩
        case round =>
          obtain ⟨g, hg, rfl, hbf, hq⟩ := hrel
          have c0q : wr.cell? ⟨w.heap.size, 0, none⟩ = some (.pointer (some ⟨b, 0, none⟩)) :=
            (hq.row (Fr.row HML.out.2.1 HRR.out (by show ¬ w.heap.size = w.heap.size + 1; omega))).cell 0
          by_cases hlt2 : g < m
          · have hgm : (g : Int) < m := by omega
            have hIM : IMapAt wr (w.heap.size + 1) (imPut ml m (.int .i64 m)) := HML.out.1.fr hq (fun e => e)
            go_wp2_with fail
            have hN1 : New w wr := (HN.out.at_ HML.out.2.1 (by omega)).trans hq
            refine (WA.out _ hN1 m g (by omega) (by omega)).mono ?_
            rintro e w' ⟨rfl, hw'⟩
            have hIM2 := hIM.fr hw' (fun e => e)
            have hlk := run_lookup_int (P := Try.prog) hIM2 207 3 3 Try.underlying207 Try.underlying3 (.int .i64 0) (by go_simp) g
            obtain ⟨w3, hmu3, hm3, hat3⟩ := run_mapUpdate_int (P := Try.prog) hIM2 207 3 3 Try.underlying207 Try.underlying3 m (.int .i64 (headOf z.Z g))
            have hgt : imFind (imPut ml m (.int .i64 m)) g = some (.int .i64 (headOf z.Z g)) := by
              rw [imFind_put, if_neg (by omega)]; exact HML.out.2.2 g hlt2
            rw [hgt] at hlk
            simp only [Option.getD_some] at hlk
            cases ht : tied z.Z m g
            · have htt : ¬ wayI (gt z.Z (9 * m + g)) (gt z.Z (9 * g + m)) ≤ 1 := of_decide_eq_false ht
              go_wp2_with fail
              refine ⟨⟨g + 1, by omega, by push_cast; rfl, fun i hi => ?_, hq.trans hw'⟩, ?_⟩
              · by_cases e : i = g
                · subst e; exact ht
                · exact hbf i (by omega)
              · simp only [intOf]; omega
            · have htt : wayI (gt z.Z (9 * m + g)) (gt z.Z (9 * g + m)) ≤ 1 := of_decide_eq_true ht
              go_wp2_with fail
              go_meet
              case rel =>
                have e1 : headOf z.Z m = headOf z.Z g := by rw [headOf_eq, firstTied_before g hlt2 hbf ht]
                refine ⟨⟨_, hm3, fun y hy => ?_⟩, (HML.out.2.1.trans (Fr.of_new (hq.trans hw'))).trans hat3⟩
                rw [imFind_put, imFind_put]
                by_cases e : y = m
                · subst e; rw [if_pos rfl, e1]
                · rw [if_neg (by omega), if_neg (by omega)]; exact HML.out.2.2 y (by omega)
          · have hgm : ¬ (g : Int) < m := by omega
            go_wp2_with fail
            go_meet
            case rel =>
              have e0 : g = m := by omega
              subst e0
              have e1 : headOf z.Z g = g := by rw [headOf_eq, firstTied_none hbf]
              refine ⟨⟨_, HML.out.1.fr hq (fun e => e), fun y hy => ?_⟩, HML.out.2.1.trans (Fr.of_new hq)⟩
              rw [imFind_put]
              by_cases e : y = g
              · subst e; rw [if_pos rfl, e1]
              · rw [if_neg (by omega)]; exact HML.out.2.2 y (by omega)
      case rest =>
        obtain ⟨⟨ml2, hml2, hget2⟩, hat2⟩ := hcut
        have hN2 : New w wc := HN.out.at_ hat2 (by omega)
        obtain ⟨mem, hmem, vs, hv1, hv2, hv3, hv4⟩ := HME.out
        have hmem2 : IMapAt wc (w.heap.size + 1 + 1) mem := hmem.fr hat2 (by show ¬ w.heap.size + 1 + 1 = w.heap.size + 1; omega)
        have hlkH := run_lookup_int (P := Try.prog) hml2 207 3 3 Try.underlying207 Try.underlying3 (.int .i64 0) (by go_simp) m
        rw [hget2 m (by omega)] at hlkH
        simp only [Option.getD_some] at hlkH
        have hlkM := run_lookup_int (P := Try.prog) hmem2 208 3 25 Try.underlying208 Try.underlying3 (.slice none 0 0) (by go_simp) (headOf z.Z m)
        rw [hv1] at hlkM
        clear hmu
        go_wp2_with fail
        clear hlkH hlkM
        obtain ⟨j0, hj0, hy0, hy1, hy2⟩ := info_parts infoOf3
        -- region 18
        refine start_ (n := 13) (S := fun W => IMapAt W (w.heap.size + 1) ml2) (ds := []) #[false, false, false, false, false, false, false, false, false, false, false, false, false] (by kernel_rfl) rfl rfl (hml2.fr (New.refl wc).drew (fun e => e)) (fun hHeld => ?_); refine with_tabW clsTab clsBits (fun HT_ HW_ => ?_)
        have hmem3 := hmem2.fr (New.refl wc).drew (fun e => e)
        have hD : Fr (fun k => k = w.heap.size + 1) wo wc.drew := hat2.drew
        generalize wc.drew = wd at hHeld hmem3 hD ⊢
        refine pure_ (i := 0) (N := some 48) (v := ?_) (a' := ?_) #[true, false, false, false, false, false, false, false, false, false, false, false, false] rfl rfl (any_of HT_.out (by kernel_rfl)) (fun _ _ _ h => h) (Or.inl ⟨by rfl, ?_⟩) ?_ ?_
        rotate_left
        · intro w'
          go_simp
          with_reducible rfl
        rotate_left
        · simp only [Act.put, List.setIfInBounds_toArray, List.set_cons_zero, List.set_cons_succ]
          rfl
        refine pure_ (i := 1) (N := some 49) (v := ?_) (a' := ?_) #[true, true, false, false, false, false, false, false, false, false, false, false, false] rfl rfl (any_of HT_.out (by kernel_rfl)) (fun _ _ _ h => h) (Or.inl ⟨by rfl, ?_⟩) ?_ ?_
        rotate_left
        · intro w'
          go_simp
          with_reducible rfl
        rotate_left
        · simp only [Act.put, List.setIfInBounds_toArray, List.set_cons_zero, List.set_cons_succ]
          rfl
        refine pure_ (i := 2) (N := some 50) (v := ?_) (a' := ?_) #[true, true, true, false, false, false, false, false, false, false, false, false, false] rfl rfl (any_of HT_.out (by kernel_rfl)) (fun _ _ _ h => h) (Or.inl ⟨by rfl, ?_⟩) ?_ ?_
        rotate_left
        · intro w'
          go_simp
          with_reducible rfl
        rotate_left
        · simp only [Act.put, List.setIfInBounds_toArray, List.set_cons_zero, List.set_cons_succ]
          rfl
        refine pure_ (i := 4) (N := some 52) (v := ?_) (a' := ?_) #[true, true, true, false, true, false, false, false, false, false, false, false, false] rfl rfl (any_of HT_.out (by kernel_rfl)) (fun _ _ _ h => h) (Or.inl ⟨by rfl, ?_⟩) ?_ ?_
        rotate_left
        · intro w'
          go_simp
          with_reducible rfl
        rotate_left
        · simp only [Act.put, List.setIfInBounds_toArray, List.set_cons_zero, List.set_cons_succ]
          rfl
        refine pure_ (i := 5) (N := some 53) (v := ?_) (a' := ?_) #[true, true, true, false, true, true, false, false, false, false, false, false, false] rfl rfl (any_of HT_.out (by kernel_rfl)) (fun _ _ _ h => h) (Or.inl ⟨by rfl, ?_⟩) ?_ ?_
        rotate_left
        · intro w'
          go_simp
          with_reducible rfl
        rotate_left
        · simp only [Act.put, List.setIfInBounds_toArray, List.set_cons_zero, List.set_cons_succ]
          rfl
        refine pure_ (i := 6) (N := some 54) (v := ?_) (a' := ?_) #[true, true, true, false, true, true, true, false, false, false, false, false, false] rfl rfl (any_of HT_.out (by kernel_rfl)) (fun _ _ _ h => h) (Or.inl ⟨by rfl, ?_⟩) ?_ ?_
        rotate_left
        · intro w'
          go_simp
          with_reducible rfl
        rotate_left
        · simp only [Act.put, List.setIfInBounds_toArray, List.set_cons_zero, List.set_cons_succ]
          rfl
        refine pure_ (i := 9) (N := some 57) (v := ?_) (a' := ?_) #[true, true, true, false, true, true, true, false, false, true, false, false, false] rfl rfl (any_of HT_.out (by kernel_rfl)) (fun _ _ _ h => h) (Or.inl ⟨by rfl, ?_⟩) ?_ ?_
        rotate_left
        · intro w'
          go_simp
          with_reducible rfl
        rotate_left
        · simp only [Act.put, List.setIfInBounds_toArray, List.set_cons_zero, List.set_cons_succ]
          rfl
        refine take_ (i := 3) (N := some 51) (v := ?_) (a' := ?_) #[true, true, true, true, true, true, true, false, false, true, false, false, false] rfl rfl (take_ofW HT_.out HW_.out (by kernel_rfl)) (fun _ _ _ h => h) (Or.inl ⟨by rfl, ?_⟩) hHeld ?_ ?_
        rotate_left
        · intro w' hkt
          have hlkW := run_lookup_int (P := Try.prog) hkt 207 3 3 Try.underlying207 Try.underlying3 (.int .i64 0) (by go_simp) m
          rw [hget2 m (by omega)] at hlkW
          simp only [Option.getD_some] at hlkW
          go_simp
          with_reducible rfl
        rotate_left
        · simp only [Act.put, List.setIfInBounds_toArray, List.set_cons_zero, List.set_cons_succ]
          rfl
        refine take_ (i := 7) (N := some 55) (v := ?_) (a' := ?_) #[true, true, true, true, true, true, true, true, false, true, false, false, false] rfl rfl (take_ofW HT_.out HW_.out (by kernel_rfl)) (fun _ _ _ h => h) (Or.inl ⟨by rfl, ?_⟩) hHeld ?_ ?_
        rotate_left
        · intro w' hkt
          have hlkW := run_lookup_int (P := Try.prog) hkt 207 3 3 Try.underlying207 Try.underlying3 (.int .i64 0) (by go_simp) m
          rw [hget2 m (by omega)] at hlkW
          simp only [Option.getD_some] at hlkW
          go_simp
          with_reducible rfl
        rotate_left
        · simp only [Act.put, List.setIfInBounds_toArray, List.set_cons_zero, List.set_cons_succ]
          rfl
        refine two_ (i := 8) (j := 10) (Ni := some 56) (Nj := some 58) #[true, true, true, true, true, true, true, true, true, true, false, false, false] #[true, true, true, true, true, true, true, true, false, true, true, false, false] rfl rfl rfl rfl (two_of HT_.out (by kernel_rfl)) (by decide) (by decide) (fun K hK => ?_) (fun K hK => ?_)
        · have hlkM := run_lookup_int (P := Try.prog) hmem3 208 3 25 Try.underlying208 Try.underlying3 (.slice none 0 0) (by go_simp) (headOf z.Z m)
          rw [hv1] at hlkM
          refine gives_ (v := vs (headOf z.Z m)) (w1 := wd) (by rfl) rfl (by go_simp) ?_
          refine hK.out _ _ hHeld (fun hHeld => ?_)
          clear hK K
          refine norm_ (a' := ?_) ?_ ?_
          rotate_left
          · show Act.put _ (some 56) _ = _
            simp only [Act.put, List.setIfInBounds_toArray, List.set_cons_zero, List.set_cons_succ]
            rfl
          refine one_ (i := 10) (N := some 58) #[true, true, true, true, true, true, true, true, true, true, true, false, false] rfl rfl (one_of HT_.out (by kernel_rfl)) (by decide) (fun K hK => ?_)
          refine gives_ (v := .slice (some ⟨wd.heap.size, 0, none⟩) 1 1) (w1 := wd.alloc (.cells #[.int .i64 m] 3)) (by rfl) rfl (by go_simp) ?_
          refine hK.out _ _ (hHeld.fr ((New.refl wd).alloc _) (fun e => e)) (fun hHeld => ?_)
          clear hK K
          refine norm_ (a' := ?_) ?_ ?_
          rotate_left
          · show Act.put _ (some 58) _ = _
            simp only [Act.put, List.setIfInBounds_toArray, List.set_cons_zero, List.set_cons_succ]
            rfl
          have hmemA := hmem3.fr ((New.refl wd).alloc (.cells #[.int .i64 (m : Int)] 3)) (fun e => e)
          have hD10 := Fr.trans hD (Fr.of_new ((New.refl wd).alloc (.cells #[.int .i64 (m : Int)] 3)))
          have hown := own_fr (hv3 (headOf z.Z m)) hD10 (fun g hg' e => own_ne_imap (hv3 _) HMH.out (by rw [hg', show g = w.heap.size + 1 from e]))
          have hel := elems_new wd 3 (.int .i64 (m : Int))
          have hml10 := memTo_length z.Z m (headOf z.Z m)
          have hsz10 : w.heap.size ≤ (wd.alloc (.cells #[.int .i64 (m : Int)] 3)).heap.size := Nat.le_trans HN.out.size hD10.size
          generalize wd.alloc (.cells #[.int .i64 (m : Int)] 3) = w10 at hmemA hD10 hown hel hHeld hsz10 ⊢
          generalize wd.heap.size = gn at hel ⊢
          obtain ⟨v', w11, hrun, ho, hg, hb⟩ := run_append_elems2 (P := Try.prog) w10 w.heap.size 25 25 3 j0 (.int .i64 0) 1 8 Try.underlying25 hj0 hy0 hy1 hy2 rfl (by decide) _ _ _ hown _ _ 1 1 [.int .i64 (m : Int)] hel rfl (by simp [Value.oneCell']) (by unfold maxLen; omega) (by omega) hsz10
          have hgF := Fr.of_grown (S := fun k => (vs (headOf z.Z m)).ownBlock = some k) hg (fun k hk _ => hk)
          have hm11 := hmemA.fr hgF (fun e => own_ne_imap (hv3 _) hmem e)
          refine one_ (i := 11) (N := some 59) #[true, true, true, true, true, true, true, true, true, true, true, true, false] rfl rfl (one_of HT_.out (by kernel_rfl)) (by decide) (fun K hK => ?_)
          refine gives_ (v := v') (w1 := w11) (by rfl) rfl (exec_append rfl rfl rfl hrun) ?_
          refine hK.out _ _ (hHeld.fr hgF (fun e => own_ne_imap (hv3 _) HMH.out e)) (fun hHeld => ?_)
          clear hK K
          refine norm_ (a' := ?_) ?_ ?_
          rotate_left
          · show Act.put _ (some 59) _ = _
            simp only [Act.put, List.setIfInBounds_toArray, List.set_cons_zero, List.set_cons_succ]
            rfl
          obtain ⟨w12, hmu12, hm12, hat12⟩ := run_mapUpdate_int (P := Try.prog) hm11 208 3 25 Try.underlying208 Try.underlying3 (headOf z.Z m) v'
          refine one_ (i := 12) (N := none) #[true, true, true, true, true, true, true, true, true, true, true, true, true] rfl rfl (one_of HT_.out (by kernel_rfl)) (by decide) (fun K hK => ?_)
          refine skip_ (w1 := w12) (by rfl) rfl (by go_simp) ?_
          refine hK.out _ _ (hHeld.fr hat12 (by show ¬ w.heap.size + 1 = w.heap.size + 1 + 1; omega)) (fun hHeld => ?_)
          clear hK K
          refine done_ (done_of HT_.out (by kernel_rfl)) ?_
          have hstep := MemsAt.step hmem hv1 hv2 hv3 hv4 HMH.out hD10 ho hg hb hm11 hm12 hat12
          have hF12 := (Fr.then hD10 hgF (T := fun k => k = w.heap.size + 1 ∨ (vs (headOf z.Z m)).ownBlock = some k) (fun _ _ e => .inl e) (fun _ _ e => .inr e)).then hat12 (T := fun k => k = w.heap.size + 1 ∨ (vs (headOf z.Z m)).ownBlock = some k ∨ k = w.heap.size + 1 + 1) (fun _ _ e => e.elim .inl (fun e => .inr (.inl e))) (fun _ _ e => .inr (.inr e))
          clear hrun hmu12 hmemA hown hel
          go_wp2_with fail
          refine ⟨⟨m + 1, by omega, by push_cast; rfl, ?_, ⟨ml2, hHeld, hget2⟩, hstep, ?_⟩, by simp only [intOf]; omega⟩
          · refine hF12.row HRR.out (fun e => ?_)
            rcases e with e | e | e
            · omega
            · exact own_ne (hv3 _) HRR.out (by decide) e
            · omega
          · refine Fr.then HN.out hF12 (fun _ _ e => e.elim) (fun k hk e => ?_)
            rcases e with e | e | e
            · omega
            · have := (own_row (hv3 _) e).1; omega
            · omega
        · refine gives_ (v := .slice (some ⟨wd.heap.size, 0, none⟩) 1 1) (w1 := wd.alloc (.cells #[.int .i64 m] 3)) (by rfl) rfl (by go_simp) ?_
          refine hK.out _ _ (hHeld.fr ((New.refl wd).alloc _) (fun e => e)) (fun hHeld => ?_)
          clear hK K
          refine norm_ (a' := ?_) ?_ ?_
          rotate_left
          · show Act.put _ (some 58) _ = _
            simp only [Act.put, List.setIfInBounds_toArray, List.set_cons_zero, List.set_cons_succ]
            rfl
          have hmem4 := hmem3.fr ((New.refl wd).alloc (.cells #[.int .i64 (m : Int)] 3)) (fun e => e)
          refine one_ (i := 8) (N := some 56) #[true, true, true, true, true, true, true, true, true, true, true, false, false] rfl rfl (one_of HT_.out (by kernel_rfl)) (by decide) (fun K hK => ?_)
          have hlkM := run_lookup_int (P := Try.prog) hmem4 208 3 25 Try.underlying208 Try.underlying3 (.slice none 0 0) (by go_simp) (headOf z.Z m)
          rw [hv1] at hlkM
          refine gives_ (v := vs (headOf z.Z m)) (w1 := wd.alloc (.cells #[.int .i64 m] 3)) (by rfl) rfl (by go_simp) ?_
          refine hK.out _ _ hHeld (fun hHeld => ?_)
          clear hK K
          refine norm_ (a' := ?_) ?_ ?_
          rotate_left
          · show Act.put _ (some 56) _ = _
            simp only [Act.put, List.setIfInBounds_toArray, List.set_cons_zero, List.set_cons_succ]
            rfl
          have hmemA := hmem3.fr ((New.refl wd).alloc (.cells #[.int .i64 (m : Int)] 3)) (fun e => e)
          have hD10 := Fr.trans hD (Fr.of_new ((New.refl wd).alloc (.cells #[.int .i64 (m : Int)] 3)))
          have hown := own_fr (hv3 (headOf z.Z m)) hD10 (fun g hg' e => own_ne_imap (hv3 _) HMH.out (by rw [hg', show g = w.heap.size + 1 from e]))
          have hel := elems_new wd 3 (.int .i64 (m : Int))
          have hml10 := memTo_length z.Z m (headOf z.Z m)
          have hsz10 : w.heap.size ≤ (wd.alloc (.cells #[.int .i64 (m : Int)] 3)).heap.size := Nat.le_trans HN.out.size hD10.size
          generalize wd.alloc (.cells #[.int .i64 (m : Int)] 3) = w10 at hmemA hD10 hown hel hHeld hsz10 ⊢
          generalize wd.heap.size = gn at hel ⊢
          obtain ⟨v', w11, hrun, ho, hg, hb⟩ := run_append_elems2 (P := Try.prog) w10 w.heap.size 25 25 3 j0 (.int .i64 0) 1 8 Try.underlying25 hj0 hy0 hy1 hy2 rfl (by decide) _ _ _ hown _ _ 1 1 [.int .i64 (m : Int)] hel rfl (by simp [Value.oneCell']) (by unfold maxLen; omega) (by omega) hsz10
          have hgF := Fr.of_grown (S := fun k => (vs (headOf z.Z m)).ownBlock = some k) hg (fun k hk _ => hk)
          have hm11 := hmemA.fr hgF (fun e => own_ne_imap (hv3 _) hmem e)
          refine one_ (i := 11) (N := some 59) #[true, true, true, true, true, true, true, true, true, true, true, true, false] rfl rfl (one_of HT_.out (by kernel_rfl)) (by decide) (fun K hK => ?_)
          refine gives_ (v := v') (w1 := w11) (by rfl) rfl (exec_append rfl rfl rfl hrun) ?_
          refine hK.out _ _ (hHeld.fr hgF (fun e => own_ne_imap (hv3 _) HMH.out e)) (fun hHeld => ?_)
          clear hK K
          refine norm_ (a' := ?_) ?_ ?_
          rotate_left
          · show Act.put _ (some 59) _ = _
            simp only [Act.put, List.setIfInBounds_toArray, List.set_cons_zero, List.set_cons_succ]
            rfl
          obtain ⟨w12, hmu12, hm12, hat12⟩ := run_mapUpdate_int (P := Try.prog) hm11 208 3 25 Try.underlying208 Try.underlying3 (headOf z.Z m) v'
          refine one_ (i := 12) (N := none) #[true, true, true, true, true, true, true, true, true, true, true, true, true] rfl rfl (one_of HT_.out (by kernel_rfl)) (by decide) (fun K hK => ?_)
          refine skip_ (w1 := w12) (by rfl) rfl (by go_simp) ?_
          refine hK.out _ _ (hHeld.fr hat12 (by show ¬ w.heap.size + 1 = w.heap.size + 1 + 1; omega)) (fun hHeld => ?_)
          clear hK K
          refine done_ (done_of HT_.out (by kernel_rfl)) ?_
          have hstep := MemsAt.step hmem hv1 hv2 hv3 hv4 HMH.out hD10 ho hg hb hm11 hm12 hat12
          have hF12 := (Fr.then hD10 hgF (T := fun k => k = w.heap.size + 1 ∨ (vs (headOf z.Z m)).ownBlock = some k) (fun _ _ e => .inl e) (fun _ _ e => .inr e)).then hat12 (T := fun k => k = w.heap.size + 1 ∨ (vs (headOf z.Z m)).ownBlock = some k ∨ k = w.heap.size + 1 + 1) (fun _ _ e => e.elim .inl (fun e => .inr (.inl e))) (fun _ _ e => .inr (.inr e))
          clear hrun hmu12 hmemA hown hel
          go_wp2_with fail
          refine ⟨⟨m + 1, by omega, by push_cast; rfl, ?_, ⟨ml2, hHeld, hget2⟩, hstep, ?_⟩, by simp only [intOf]; omega⟩
          · refine hF12.row HRR.out (fun e => ?_)
            rcases e with e | e | e
            · omega
            · exact own_ne (hv3 _) HRR.out (by decide) e
            · omega
          · refine Fr.then HN.out hF12 (fun _ _ e => e.elim) (fun k hk e => ?_)
            rcases e with e | e | e
            · omega
            · have := (own_row (hv3 _) e).1; omega
            · omega
    · have e0 : m = z.n + 1 := by omega
      subst e0
      have hmm : ¬ ((z.n + 1 : Nat) : Int) < z.n + 1 := by omega
      have HHH := Lib.hid hh
      have HME := Lib.hid hme
      have HN := Lib.hid hn
      have HRR := Lib.hid hr
      clear hh hme hn hr
      go_wp2_with fail
      refine (DI.out _ HN.out).mono ?_
      rintro e w' ⟨rfl, rfl⟩
      go_wp2_with fail
      obtain ⟨mem, hmem, vs, hv1, hv2, hv3, hv4⟩ := HME.out
      go_loopw [64, 9] (fun c c9 wr => ∃ k : Nat, k ≤ z.n + 1 ∧ c = .int .i64 k ∧ wr.ownsRow w.heap.size 25 1 c9 (headsL z.Z (z.n + 1) k).length (rowsL z.Z vs (z.n + 1) k) ∧
          (∃ ml', IMapAt wr (w.heap.size + 1 + 1) ml' ∧ ∀ y : Nat, k ≤ y → imFind ml' y = imFind mem y) ∧ (∀ y, wr.ownsRow w.heap.size 3 1 (vs y) (memTo z.Z (z.n + 1) y).length (nats (memTo z.Z (z.n + 1) y))) ∧ New w wr)
        (fun cn _ _ => z.n + 1 - (intOf cn).toNat)
      case atStart => exact ⟨0, by omega, rfl, ⟨by rfl, .inl ⟨rfl, rfl⟩⟩, ⟨mem, hmem, fun y _ => rfl⟩, hv3, HN.out⟩
      case round =>
        obtain ⟨k, hk, rfl, hown, ⟨ml3, hml3, hget3⟩, hrows, hn3⟩ := hrel
        by_cases hlt3 : k < z.n + 1
        · have hkk : (k : Int) < z.n + 1 := by omega
          have hlk2 := run_lookup2_int (P := Try.prog) hml3 208 3 25 Try.underlying208 Try.underlying3 (.slice none 0 0) (by go_simp) k
          rw [hget3 k (Nat.le_refl _), hv1, hv2] at hlk2
          have HROWS := Lib.hid hrows
          have HN3 := Lib.hid hn3
          clear hrows hn3
          cases hemp : (memTo z.Z (z.n + 1) k).isEmpty
          · obtain ⟨A, cc, hvk⟩ := own_form (HROWS.out k)
            obtain ⟨i0, hi0, hz0, hz1, hz2⟩ := info_parts infoOf25
            rw [hemp, hvk] at hlk2
            have hlenk : (headsL z.Z (z.n + 1) k).length ≤ k := by unfold headsL; exact Nat.le_trans (List.length_filter_le _ _) (by simp)
            have hszr : w.heap.size ≤ wr.heap.size := HN3.out.size
            have hnw := (New.refl wr).alloc (.cells #[.slice A (memTo z.Z (z.n + 1) k).length cc] 25)
            have HOWN2 := Lib.hid (own_new hown hnw)
            have HEL2 := Lib.hid (elems_new wr 25 (.slice A (memTo z.Z (z.n + 1) k).length cc))
            have HM2 := Lib.hid (hml3.fr hnw (fun e => e))
            have HNW := Lib.hid hnw
            clear hown hnw
            go_wp2_with (at_builtin; refine wpList_append_elems2 rfl _ _ 52 rfl w.heap.size 25 i0 (.slice none 0 0) 1 24 Try.underlying52 hi0 hz0 hz1 hz2 rfl (by decide) _ _ _ rfl HOWN2.out (wr.heap.size + 1) _ 1 1 [.slice A (memTo z.Z (z.n + 1) k).length cc] rfl HEL2.out rfl (by simp [Value.oneCell']) ?d1 ?d2 ?d3 ?_)
            case d1 => unfold maxLen; omega
            case d2 => omega
            case d3 => simp; omega
            intro v' w' ho' hg hloc
            have hgF := Fr.of_grown (S := fun k => _ = some k) hg (fun k hk _ => hk)
            have hM3 := HM2.out.fr hgF (fun e => own_ne_imap HOWN2.out HM2.out e)
            obtain ⟨w4, ml4, hdel, hm4, hget4, hat4⟩ := run_delete_int (P := Try.prog) hM3 208 3 25 Try.underlying208 Try.underlying3 #[208, 3] rfl 0 k
            go_wp2_with fail
            refine ⟨⟨k + 1, by omega, by push_cast; rfl, ?_, ⟨ml4, hm4, fun y hy => (hget4 y (by omega)).trans (hget3 y (by omega))⟩, fun y => ?_, ?_⟩, by simp only [intOf]; omega⟩
            · have h1 := own_fr ho' hat4 (fun g hg' e => own_ne_imap ho' hM3 (by rw [hg', show g = w.heap.size + 1 + 1 from e]))
              have e1 : headsL z.Z (z.n + 1) (k + 1) = headsL z.Z (z.n + 1) k ++ [k] := by rw [headsL_succ, if_neg (by rw [hemp]; decide)]
              have e2 : rowsL z.Z vs (z.n + 1) (k + 1) = rowsL z.Z vs (z.n + 1) k ++ [.slice A (memTo z.Z (z.n + 1) k).length cc] := by unfold rowsL; rw [e1, List.map_append, List.map_cons, hvk]; rfl
              rw [e1, e2, List.length_append]
              exact h1
            · have h1 := own_new (HROWS.out y) HNW.out
              have h2 := own_fr h1 hgF (fun g hg' => own_ne_own h1 HOWN2.out (by decide) hg')
              exact own_fr h2 hat4 (fun g hg' e => own_ne_imap h2 hM3 (by rw [hg', show g = w.heap.size + 1 + 1 from e]))
            · refine Fr.then (Fr.then (HN3.out.trans HNW.out) hgF (T := fun _ => False) (fun _ _ e => e) (fun g hk e => ?_)) hat4 (fun _ _ e => e) (fun g hk e => ?_)
              · have := (own_row HOWN2.out e).1; omega
              · have e' : g = w.heap.size + 1 + 1 := e
                omega
          · rw [hemp] at hlk2
            go_wp2_with fail
            have e1 : headsL z.Z (z.n + 1) (k + 1) = headsL z.Z (z.n + 1) k := by rw [headsL_succ, if_pos hemp, List.append_nil]
            refine ⟨⟨k + 1, by omega, by push_cast; rfl, ?_, ⟨ml3, hml3, fun y hy => hget3 y (by omega)⟩, HROWS.out, HN3.out⟩, by simp only [intOf]; omega⟩
            unfold rowsL at hown ⊢
            rw [e1]
            exact hown
        · have hkk : ¬ (k : Int) < z.n + 1 := by omega
          go_wp2_with fail
          have e3 : k = z.n + 1 := by omega
          subst e3
          go_ret2
          exact ⟨_, rfl, lol_of hown hrows hv4, hn3⟩
end Go.Proofs.Ytapfihlgemejiaa
