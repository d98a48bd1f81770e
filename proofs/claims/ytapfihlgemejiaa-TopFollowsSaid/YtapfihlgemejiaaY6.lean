/- Walks over package ops: shut. -/
import Derived.Test.YtapfihlgemejiaaC0
import Derived.Test.YtapfihlgemejiaaD3
namespace Go.Proofs.Ytapfihlgemejiaa
open Go.RowKit Go.Proofs.YtapfihlgemejiaaW.PrintLast
def r119T : Bool × List (List Nat × List Nat) := (true, [([], []), ([], []), ([], []), ([1], [1]), ([3], [3]), ([4, 2], [2, 4]), ([], []), ([6], [6]), ([7], [7]), ([8], [8]), ([9], [9]), ([10], [10]), ([5, 11], [5, 11]), ([0, 12], [0, 12]), ([13, 13, 0, 1, 2, 3, 4, 5, 6, 7, 8, 9, 10, 11, 12, 13], [0, 13])])
def r119B : List Nat := [0, 0, 0, 2, 10, 30, 0, 64, 192, 448, 960, 1984, 4094, 8191, 16383]
theorem r119Tab : rtab .any (opsOf Try.f119 5) = r119T := by kernel_rfl
theorem r119Bits : waitsOk r119T.2 r119B = true := by kernel_rfl
theorem work_row_elems {w : World} {b n : Nat} {L : List Int} (h : Row w b 183 (zoneRow n L)) (hL : L.length = 81) (hn : n ≤ 8) (i : Nat) (hi : i ≤ n) : Elems w w.heap.size (some ⟨b, 1 + i * 9, none⟩) (ints32 (rowOf ⟨n, L⟩ i)) := fun _ => by
  refine ⟨b, 1 + i * 9, rfl, h.lt, fun j u hu => ?_⟩
  have hj := (List.getElem?_eq_some_iff.1 hu).1
  rw [ints32_length, rowOf_length] at hj
  have hj : j < n + 1 := hj
  unfold ints32 rowOf at hu
  rw [List.getElem?_map, List.getElem?_map, List.getElem?_range hj] at hu
  simp only [Option.map_some, Option.some.injEq] at hu
  rw [← hu]
  exact zone_at h i j hL (by omega) (by omega)
theorem run_make_w (w : World) (m : Nat) (hm : m ≤ 81) : ∃ w', (Instr.makeSlice 40 (.int .i64 0) (.int .i64 (m : Int))).run Try.prog w = .ok (.slice (some ⟨w.heap.size, 0, none⟩) 0 m) w' ∧
      w'.ownsRow w.heap.size 76 1 (.slice (some ⟨w.heap.size, 0, none⟩) 0 m) 0 [] ∧ New w w' := by
  obtain ⟨i0, hi0, hz0, hz1, hz2⟩ := info_parts infoOf76
  obtain ⟨w4, hmk, hom, hgm⟩ := run_make_own (P := Try.prog) (w := w) w.heap.size 40 76 i0 (.int .i32 0) 1 Try.underlying40 hi0 hz0 hz1 .i64 .i64 m (by rw [hz2]; omega) (by unfold maxLen; omega) (Nat.le_refl _)
  exact ⟨w4, hmk, hom, Fr.of_grown hgm (fun k hk _ => by cases hk)⟩

set_option maxRecDepth 100000 in
set_option maxHeartbeats 4000000 in
theorem shut_any (b n : Nat) (L : List Int) (w : World) (hw : Row w b 183 (zoneRow n L)) (hL : L.length = 81) (hn : n ≤ 8) :
    Calls Try.prog 119 #[.pointer (some ⟨b, 0, none⟩)] w fun e w' => ZRet w n (ofZ n (cellsOf ⟨n, L⟩)) e w' ∧ New w w' := by
  obtain ⟨i0, hi0, hz0, hz1, hz2⟩ := info_parts infoOf76
  obtain ⟨m, hm⟩ : ∃ m, (n + 1) * (n + 1) = m := ⟨_, rfl⟩
  have hsq : m ≤ 81 := by
    have h1 : (n + 1) * (n + 1) ≤ 9 * 9 := Nat.mul_le_mul (by omega) (by omega)
    omega
  have hmi : ((n : Int) + 1) * ((n : Int) + 1) = (m : Int) := by rw [← hm]; push_cast; rfl
  have w1 : IntKind.i64.wrap ((n : Int) + 1) = (n : Int) + 1 := by rw [IntKind.wrap_i64]; omega
  have w2 : IntKind.i64.wrap (((n : Int) + 1) * ((n : Int) + 1)) = (m : Int) := by rw [hmi, IntKind.wrap_i64]; omega
  obtain ⟨w4, hmk0, hom0, hgm0⟩ := run_make_w w.drew m hsq
  have hmk : (Instr.makeSlice 40 (.int .i64 0) (.int .i64 (m : Int))).run Try.prog w.drew = .ok (.slice (some ⟨w.heap.size, 0, none⟩) 0 m) w4 := hmk0
  have hom : w4.ownsRow w.heap.size 76 1 (.slice (some ⟨w.heap.size, 0, none⟩) 0 m) 0 [] := hom0
  have hgm := (New.refl w).drew.trans hgm0
  clear hmk0 hom0 hgm0
  have HM := Lib.hid hm
  clear hm hmi
  have s0 := zone_dim hw
  have HROW := Lib.hid (hgm.row hw)
  have HOM := Lib.hid hom
  have HN4 := Lib.hid hgm
  have HSZ := Lib.hid hgm.size
  clear hw hom hgm
  go_enter Try.func119, Try.ntmps119
  go_wp2_with fail
  go_region
  clear hmk s0
  have s4 := zone_dim HROW.out
  go_wp2_with fail
  go_loopw [4, 26] (fun v ci wr => ∃ i : Nat, i ≤ n + 1 ∧ ci = .int .i64 i ∧ Hid (wr.ownsRow w.heap.size 76 1 v (i * (n + 1)) (ints32 (rowsTo ⟨n, L⟩ i))) ∧ Hid (New w wr ∧ Row wr b 183 (zoneRow n L)))
    (fun _ ci _ => n + 1 - (intOf ci).toNat)
  case atStart => exact ⟨0, by omega, by go_num, by show World.ownsRow _ _ _ _ _ _ _; rw [Nat.zero_mul]; exact HOM.out, ⟨HN4.out, HROW.out⟩⟩
  case round =>
    obtain ⟨i, hi, rfl, HOW, HN⟩ := hrel
    clear HOM HN4 HROW HSZ s4
    by_cases hlt : i < n + 1
    · have hltz : (i : Int) < n + 1 := by omega
      have hi9 : (i : Int) < 9 := by omega
      have hn9 : (n : Int) + 1 ≤ 9 := by omega
      have hn0 : (0 : Int) ≤ (n : Int) + 1 := by omega
      have hsq2 : i * (n + 1) + (n + 1) ≤ 81 := by
        have : (i + 1) * (n + 1) ≤ 9 * 9 := Nat.mul_le_mul (by omega) (by omega)
        rw [Nat.succ_mul] at this; omega
      have hsl : ∀ W, (Instr.sliceAt 172 (.pointer (some ⟨b, 1 + i * 9, none⟩)) none (some (.int .i64 ((n : Int) + 1))) none).run Try.prog W = .ok (.slice (some ⟨b, 1 + i * 9, none⟩) (n + 1) 9) W := fun W => by
        rw [run_sliceAt_array_h W 172 ⟨b, 1 + i * 9, none⟩ (by kernel_rfl) .i64 ((n : Int) + 1) hn0 (by rw [show Try.prog.arrayLen 172 = 9 by kernel_rfl]; omega)]
        go_simp
      go_wp2_with fail
      refine start_ (n := 15) (S := fun W => New wr W) (ds := [13]) #[false, false, false, false, false, false, false, false, false, false, false, false, false, false, false] (by kernel_rfl) rfl rfl (New.refl wr).drew (fun hHeld => ?_); refine with_tabW r119Tab r119Bits (fun HT_ HW_ => ?_)
      generalize wr.drew = wd at hHeld ⊢
      refine pure_ (i := 0) (N := some 29) (v := ?_) (a' := ?_) #[true, false, false, false, false, false, false, false, false, false, false, false, false, false, false] rfl rfl (any_of HT_.out (by kernel_rfl)) (fun _ _ _ h => h) (Or.inl ⟨by rfl, ?_⟩) ?_ ?_
      rotate_left
      · intro w'
        go_simp
        with_reducible rfl
      rotate_left
      · simp only [Act.put, List.setIfInBounds_toArray, List.set_cons_zero, List.set_cons_succ]
        rfl
      refine pure_ (i := 1) (N := some 30) (v := ?_) (a' := ?_) #[true, true, false, false, false, false, false, false, false, false, false, false, false, false, false] rfl rfl (any_of HT_.out (by kernel_rfl)) (fun _ _ _ h => h) (Or.inl ⟨by rfl, ?_⟩) ?_ ?_
      rotate_left
      · intro w'
        go_simp
        with_reducible rfl
      rotate_left
      · simp only [Act.put, List.setIfInBounds_toArray, List.set_cons_zero, List.set_cons_succ]
        rfl
      refine pure_ (i := 2) (N := some 31) (v := ?_) (a' := ?_) #[true, true, true, false, false, false, false, false, false, false, false, false, false, false, false] rfl rfl (any_of HT_.out (by kernel_rfl)) (fun _ _ _ h => h) (Or.inl ⟨by rfl, ?_⟩) ?_ ?_
      rotate_left
      · intro w'
        go_simp
        with_reducible rfl
      rotate_left
      · simp only [Act.put, List.setIfInBounds_toArray, List.set_cons_zero, List.set_cons_succ]
        rfl
      refine pure_ (i := 3) (N := some 32) (v := ?_) (a' := ?_) #[true, true, true, true, false, false, false, false, false, false, false, false, false, false, false] rfl rfl (any_of HT_.out (by kernel_rfl)) (fun _ _ _ h => h) (Or.inl ⟨by rfl, ?_⟩) ?_ ?_
      rotate_left
      · intro w'
        go_simp
        with_reducible rfl
      rotate_left
      · simp only [Act.put, List.setIfInBounds_toArray, List.set_cons_zero, List.set_cons_succ]
        rfl
      refine pure_ (i := 4) (N := some 33) (v := ?_) (a' := ?_) #[true, true, true, true, true, false, false, false, false, false, false, false, false, false, false] rfl rfl (any_of HT_.out (by kernel_rfl)) (fun _ _ _ h => h) (Or.inl ⟨by rfl, ?_⟩) ?_ ?_
      rotate_left
      · intro w'
        go_simp
        with_reducible rfl
      rotate_left
      · simp only [Act.put, List.setIfInBounds_toArray, List.set_cons_zero, List.set_cons_succ]
        rfl
      refine pure_ (i := 5) (N := some 34) (v := ?_) (a' := ?_) #[true, true, true, true, true, true, false, false, false, false, false, false, false, false, false] rfl rfl (any_of HT_.out (by kernel_rfl)) (fun _ _ _ h => h) (Or.inl ⟨by rfl, ?_⟩) ?_ ?_
      rotate_left
      · intro w'
        go_simp
        with_reducible rfl
      rotate_left
      · simp only [Act.put, List.setIfInBounds_toArray, List.set_cons_zero, List.set_cons_succ]
        rfl
      refine pure_ (i := 6) (N := some 35) (v := ?_) (a' := ?_) #[true, true, true, true, true, true, true, false, false, false, false, false, false, false, false] rfl rfl (any_of HT_.out (by kernel_rfl)) (fun _ _ _ h => h) (Or.inl ⟨by rfl, ?_⟩) ?_ ?_
      rotate_left
      · intro w'
        go_simp
        with_reducible rfl
      rotate_left
      · simp only [Act.put, List.setIfInBounds_toArray, List.set_cons_zero, List.set_cons_succ]
        rfl
      refine pure_ (i := 7) (N := some 36) (v := ?_) (a' := ?_) #[true, true, true, true, true, true, true, true, false, false, false, false, false, false, false] rfl rfl (any_of HT_.out (by kernel_rfl)) (fun _ _ _ h => h) (Or.inl ⟨by rfl, ?_⟩) ?_ ?_
      rotate_left
      · intro w'
        go_simp
        with_reducible rfl
      rotate_left
      · simp only [Act.put, List.setIfInBounds_toArray, List.set_cons_zero, List.set_cons_succ]
        rfl
      refine pure_ (i := 8) (N := some 37) (v := ?_) (a' := ?_) #[true, true, true, true, true, true, true, true, true, false, false, false, false, false, false] rfl rfl (any_of HT_.out (by kernel_rfl)) (fun _ _ _ h => h) (Or.inl ⟨by rfl, ?_⟩) ?_ ?_
      rotate_left
      · intro w'
        go_simp
        with_reducible rfl
      rotate_left
      · simp only [Act.put, List.setIfInBounds_toArray, List.set_cons_zero, List.set_cons_succ]
        rfl
      refine pure_ (i := 9) (N := some 38) (v := ?_) (a' := ?_) #[true, true, true, true, true, true, true, true, true, true, false, false, false, false, false] rfl rfl (any_of HT_.out (by kernel_rfl)) (fun _ _ _ h => h) (Or.inl ⟨by rfl, ?_⟩) ?_ ?_
      rotate_left
      · intro w'
        go_simp
        with_reducible rfl
      rotate_left
      · simp only [Act.put, List.setIfInBounds_toArray, List.set_cons_zero, List.set_cons_succ]
        rfl
      refine take_ (i := 10) (N := some 39) (v := ?_) (a' := ?_) #[true, true, true, true, true, true, true, true, true, true, true, false, false, false, false] rfl rfl (take_ofW HT_.out HW_.out (by kernel_rfl)) (fun _ _ _ h => h) (Or.inl ⟨by rfl, ?_⟩) hHeld ?_ ?_
      rotate_left
      · intro w' hkt
        have s0 := zone_dim (hkt.row HN.out.2)
        go_simp
        with_reducible rfl
      rotate_left
      · simp only [Act.put, List.setIfInBounds_toArray, List.set_cons_zero, List.set_cons_succ]
        rfl
      refine pure_ (i := 11) (N := some 40) (v := ?_) (a' := ?_) #[true, true, true, true, true, true, true, true, true, true, true, true, false, false, false] rfl rfl (any_of HT_.out (by kernel_rfl)) (fun _ _ _ h => h) (Or.inl ⟨by rfl, ?_⟩) ?_ ?_
      rotate_left
      · intro w'
        go_simp
        with_reducible rfl
      rotate_left
      · simp only [Act.put, List.setIfInBounds_toArray, List.set_cons_zero, List.set_cons_succ]
        rfl
      refine pure_ (i := 12) (N := some 41) (v := ?_) (a' := ?_) #[true, true, true, true, true, true, true, true, true, true, true, true, true, false, false] rfl rfl (any_of HT_.out (by kernel_rfl)) (fun _ _ _ h => h) (Or.inl ⟨by rfl, ?_⟩) ?_ ?_
      rotate_left
      · intro w'
        go_simp
        with_reducible rfl
      rotate_left
      · simp only [Act.put, List.setIfInBounds_toArray, List.set_cons_zero, List.set_cons_succ]
        rfl
      have hownD := own_new HOW.out hHeld
      have hszD : w.heap.size ≤ wd.heap.size := Nat.le_trans HN.out.1.size hHeld.size
      have hel := work_row_elems (hHeld.row HN.out.2) hL hn i (by omega)
      obtain ⟨v', w3, hrun, ho3, hg3, hb3⟩ := run_append_elems2 (P := Try.prog) wd w.heap.size 40 40 76 i0 (.int .i32 0) 1 4 Try.underlying40 hi0 hz0 hz1 hz2 rfl (by decide) _ _ _ hownD _ _ (n + 1) 9 _ hel (by rw [ints32_length, rowOf_length, Nat.mul_one]) (ints32_one _) (by have := hsq2; unfold maxLen; omega) (by have := hsq2; omega) hszD
      have hN3 : New w w3 ∧ Row w3 b 183 (zoneRow n L) := ⟨Fr.then (HN.out.1.trans hHeld) (Fr.of_grown (S := fun k => u4.ownBlock = some k) hg3 (fun k hk _ => hk)) (fun _ _ e => e) (fun k hk e => by have := (own_row hownD e).1; omega),
        (Fr.of_grown (S := fun k => u4.ownBlock = some k) hg3 (fun k hk _ => hk)).row (hHeld.row HN.out.2) (fun e => own_ne hownD (hHeld.row HN.out.2) (by decide) e)⟩
      refine last_ (i := 13) (N := some 42) #[true, true, true, true, true, true, true, true, true, true, true, true, true, true, false] rfl rfl (one_of HT_.out (by kernel_rfl)) (by decide) (fun K hK => ?_)
      refine gives_ (v := v') (w1 := w3) (by rfl) rfl (exec_app rfl rfl rfl hrun) ?_
      refine hK.out _ _ ?_
      clear hK K
      refine norm_ (a' := ?_) ?_ ?_
      rotate_left
      · show Act.put _ (some 42) _ = _
        simp only [Act.put, List.setIfInBounds_toArray, List.set_cons_zero, List.set_cons_succ]
        rfl
      refine pure_ (i := 14) (N := some 4) (v := ?_) (a' := ?_) #[true, true, true, true, true, true, true, true, true, true, true, true, true, true, true] rfl rfl (any_of HT_.out (by kernel_rfl)) (fun _ _ _ h => h) (Or.inl ⟨by rfl, ?_⟩) ?_ ?_
      rotate_left
      · intro w'
        go_simp
        with_reducible rfl
      rotate_left
      · simp only [Act.put, List.setIfInBounds_toArray, List.set_cons_zero, List.set_cons_succ]
        rfl
      refine done_ (done_of HT_.out (by kernel_rfl)) ?_
      go_wp2_with fail
      refine ⟨⟨i + 1, by omega, by go_num, ?_, hN3⟩, by simp [intOf] <;> omega⟩
      show World.ownsRow _ _ _ _ _ _ _
      rw [rowsTo_succ, Nat.succ_mul]
      have e1 : ints32 (rowsTo ⟨n, L⟩ i ++ rowOf ⟨n, L⟩ i) = ints32 (rowsTo ⟨n, L⟩ i) ++ ints32 (rowOf ⟨n, L⟩ i) := by simp [ints32]
      rw [e1]
      exact ho3
    · have hltz : ¬ (i : Int) < n + 1 := by omega
      have e : i = n + 1 := by omega
      have h1 := HOW.out
      rw [e] at h1
      clear e
      obtain ⟨A, c, rfl⟩ := own_form h1
      have s0 := zone_dim HN.out.2
      have h2 : cellsOf ⟨n, L⟩ = rowsTo ⟨n, L⟩ (n + 1) := rfl
      rw [← h2] at h1
      have OF := Lib.hid (of_any n A ((n + 1) * (n + 1)) c (cellsOf ⟨n, L⟩) wr (by rw [cellsOf_length]) (elems_of_own h1))
      have HN1 := Lib.hid HN.out.1
      clear h1 h2 HN HOW
      go_wp2_with fail
      refine OF.out.mono ?_
      rintro e w5 ⟨hz, hn5⟩
      have HN5 := Lib.hid (HN1.out.trans hn5)
      cases hq : ofZ n (cellsOf ⟨n, L⟩) with
      | err c =>
        rw [hq] at hz
        simp only [ZRet] at hz
        subst hz
        have HQ := Lib.hid hq
        clear hq hn5 HN1 OF
        go_wp2_with fail
        go_ret2
        rw [HQ.out]
        exact ⟨rfl, HN5.out⟩
      | ok Z =>
        rw [hq] at hz
        obtain ⟨g, he, hg, hrow⟩ := hz
        subst he
        have HG := Lib.hid (And.intro (Nat.le_trans HN1.out.size hg) hrow)
        have HQ := Lib.hid hq
        clear hq hn5 HN1 OF hg hrow
        go_wp2_with fail
        go_ret2
        rw [HQ.out]
        exact ⟨⟨g, rfl, HG.out.1, HG.out.2⟩, HN5.out⟩
end Go.Proofs.Ytapfihlgemejiaa
