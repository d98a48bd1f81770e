/- dbm: all cells of a zone. -/
import Derived.Test.YtapfihlgemejiaaN20
import Derived.Test.YtapfihlgemejiaaO0
import Derived.Test.YtapfihlgemejiaaD5
import Derived.Test.YtapfihlgemejiaaM4
import Derived.Deep.RegionLaw
namespace Go.Proofs.Ytapfihlgemejiaa
open Go.RowKit Go.Proofs.YtapfihlgemejiaaW.PrintLast
def r154T : Bool × List (List Nat × List Nat) := (true, [([], []), ([], []), ([], []), ([1], [1]), ([3], [3]), ([4, 2], [2, 4]), ([], []), ([6], [6]), ([7], [7]), ([8], [8]), ([9], [9]), ([5, 10], [5, 10]), ([0, 11], [0, 11]), ([12, 12, 0, 1, 2, 3, 4, 5, 6, 7, 8, 9, 10, 11, 12], [0, 12])])
def r154B : List Nat := [0, 0, 0, 2, 10, 30, 0, 64, 192, 448, 960, 2046, 4095, 8191]
theorem r154Tab : rtab .any (opsOf Try.f154 5) = r154T := by kernel_rfl
theorem r154Bits : waitsOk r154T.2 r154B = true := by kernel_rfl
theorem infoOf76 : (Try.prog.info? 76).map (fun i => (i.zero, i.size, i.bytes)) = some (some (.int .i32 0), 1, 4) := by kernel_rfl
def ints32 (l : List Int) : List Value := l.map (Value.int .i32)
theorem ints32_length (l : List Int) : (ints32 l).length = l.length := by simp [ints32]
theorem ints32_one (l : List Int) : ∀ u ∈ ints32 l, u.oneCell' = true := by
  intro u hu
  obtain ⟨x, _, rfl⟩ := List.mem_map.1 hu
  rfl
/-- Row i of a zone, all rows before i, all cells. -/
def rowOf (z : Zn) (i : Nat) : List Int := (List.range (z.n + 1)).map fun j => gt z.Z (9 * i + j)
def rowsTo (z : Zn) (i : Nat) : List Int := (List.range i).flatMap (rowOf z)
def cellsOf (z : Zn) : List Int := rowsTo z (z.n + 1)
theorem rowOf_length (z : Zn) (i : Nat) : (rowOf z i).length = z.n + 1 := by simp [rowOf]
theorem rowsTo_succ (z : Zn) (i : Nat) : rowsTo z (i + 1) = rowsTo z i ++ rowOf z i := by simp [rowsTo, List.range_succ]
theorem rowsTo_length (z : Zn) : ∀ i, (rowsTo z i).length = i * (z.n + 1)
  | 0 => by simp [rowsTo]
  | i + 1 => by rw [rowsTo_succ, List.length_append, rowsTo_length z i, rowOf_length, Nat.succ_mul]
theorem rowsTo_get (z : Zn) {j : Nat} (hj : j ≤ z.n) : ∀ {m i : Nat}, i < m → (rowsTo z m)[i * (z.n + 1) + j]? = some (gt z.Z (9 * i + j))
  | m + 1, i, h => by
    rw [rowsTo_succ]
    have hl := rowsTo_length z m
    by_cases e : i = m
    · subst e
      rw [List.getElem?_append_right (by omega), hl, Nat.add_sub_cancel_left]
      unfold rowOf
      rw [List.getElem?_map, List.getElem?_range (by omega)]; rfl
    · have : i * (z.n + 1) + j < m * (z.n + 1) := by
        have h1 : (i + 1) * (z.n + 1) ≤ m * (z.n + 1) := Nat.mul_le_mul_right _ (by omega)
        rw [Nat.succ_mul] at h1
        omega
      rw [List.getElem?_append_left (by omega)]
      exact rowsTo_get z hj (by omega)
theorem zone_row_elems {w : World} {b : Nat} {z : Zn} (h : ZoneAt w b z) (i : Nat) (hi : i ≤ z.n) : Elems w w.heap.size (some ⟨b, 1 + i * 9, none⟩) (ints32 (rowOf z i)) := fun _ => by
  refine ⟨b, 1 + i * 9, rfl, h.row.lt, fun j u hu => ?_⟩
  have hd := h.dim
  have hj := (List.getElem?_eq_some_iff.1 hu).1
  rw [ints32_length, rowOf_length] at hj
  unfold ints32 rowOf at hu
  rw [List.getElem?_map, List.getElem?_map, List.getElem?_range hj] at hu
  simp only [Option.map_some, Option.some.injEq] at hu
  rw [← hu]
  exact h.at_ i j (by omega) (by omega)
theorem exec_app {P : Program} {ev : Operand → Value} {w w' : World} {o : Oper} {s x : Operand} {t : TypeId} {v u r : Value} (ho : o.op = .call { callee := .builtin .append, args := #[s, x], argTypes := #[t, t] })
    (hs : ev s = v) (hx : ev x = u) (hrun : (Builtin.append_ #[t, t] o.type #[v, u]).run P w = .ok r w') : (execOp ev o).run P w = .ok (.value r) w' := by
  unfold execOp
  simp only [ho, resolve, invoke, builtin, Sem.run_bind, Sem.run_pure, Result.andThen_ok, List.map_toArray, List.map_cons, List.map_nil, hs, hx, hrun]
def CellsPost (z : Zn) (w : World) (e : Ending) (w' : World) : Prop := ∃ v, e = .returned v ∧ w'.ownsRow w.heap.size 76 1 v (cellsOf z).length (ints32 (cellsOf z)) ∧ New w w'
set_option maxRecDepth 100000 in
set_option maxHeartbeats 4000000 in
theorem all_any (b : Nat) (z : Zn) (w : World) (h : ZoneAt w b z) : Calls Try.prog 154 #[.pointer (some ⟨b, 0, none⟩)] w (CellsPost z w) := by
  obtain ⟨i0, hi0, hz0, hz1, hz2⟩ := info_parts infoOf76
  have hdim := h.dim
  have hn := h.n_at
  have HZ := Lib.hid h
  clear h
  go_enter Try.func154, Try.ntmps154
  go_wp2_with fail
  go_loopw [3, 10] (fun v ci wr => ∃ i : Nat, i ≤ z.n + 1 ∧ ci = .int .i64 i ∧ Hid (wr.ownsRow w.heap.size 76 1 v (i * (z.n + 1)) (ints32 (rowsTo z i))) ∧ Hid (New w wr))
    (fun _ ci _ => z.n + 1 - (intOf ci).toNat)
  case atStart => exact ⟨0, by omega, by go_num, by show World.ownsRow _ _ _ _ _ _ _; rw [Nat.zero_mul]; exact World.ownsRow_nil _ _ _ _, New.refl w⟩
  case round =>
    obtain ⟨i, hi, rfl, HOW, HN⟩ := hrel
    by_cases hlt : i < z.n + 1
    · have hltz : (i : Int) < z.n + 1 := by omega
      have hi9 : (i : Int) < 9 := by omega
      have hn9 : (z.n : Int) + 1 ≤ 9 := by omega
      have hn0 : (0 : Int) ≤ (z.n : Int) + 1 := by omega
      have hsq : i * (z.n + 1) + (z.n + 1) ≤ 81 := by
        have : (i + 1) * (z.n + 1) ≤ 9 * 9 := Nat.mul_le_mul (by omega) (by omega)
        rw [Nat.succ_mul] at this; omega
      have hwr : IntKind.i64.wrap ((z.n : Int) + 1) = (z.n : Int) + 1 := by rw [IntKind.wrap_i64]; omega
      have hsl : ∀ W, (Instr.sliceAt 172 (.pointer (some ⟨b, 1 + i * 9, none⟩)) none (some (.int .i64 ((z.n : Int) + 1))) none).run Try.prog W = .ok (.slice (some ⟨b, 1 + i * 9, none⟩) (z.n + 1) 9) W := fun W => by
        rw [run_sliceAt_array_h W 172 ⟨b, 1 + i * 9, none⟩ (by kernel_rfl) .i64 ((z.n : Int) + 1) hn0 (by rw [show Try.prog.arrayLen 172 = 9 by kernel_rfl]; omega)]
        go_simp
      go_wp2_with fail
      refine start_ (n := 14) (S := fun W => New wr W) (ds := [12]) #[false, false, false, false, false, false, false, false, false, false, false, false, false, false] (by kernel_rfl) rfl rfl (New.refl wr).drew (fun hHeld => ?_); refine with_tabW r154Tab r154Bits (fun HT_ HW_ => ?_)
      generalize wr.drew = wd at hHeld ⊢
      refine pure_ (i := 0) (N := some 13) (v := ?_) (a' := ?_) #[true, false, false, false, false, false, false, false, false, false, false, false, false, false] rfl rfl (any_of HT_.out (by kernel_rfl)) (fun _ _ _ h => h) (Or.inl ⟨by rfl, ?_⟩) ?_ ?_
      rotate_left
      · intro w'
        go_simp
        with_reducible rfl
      rotate_left
      · simp only [Act.put, List.setIfInBounds_toArray, List.set_cons_zero, List.set_cons_succ]
        rfl
      refine pure_ (i := 1) (N := some 14) (v := ?_) (a' := ?_) #[true, true, false, false, false, false, false, false, false, false, false, false, false, false] rfl rfl (any_of HT_.out (by kernel_rfl)) (fun _ _ _ h => h) (Or.inl ⟨by rfl, ?_⟩) ?_ ?_
      rotate_left
      · intro w'
        go_simp
        with_reducible rfl
      rotate_left
      · simp only [Act.put, List.setIfInBounds_toArray, List.set_cons_zero, List.set_cons_succ]
        rfl
      refine pure_ (i := 2) (N := some 15) (v := ?_) (a' := ?_) #[true, true, true, false, false, false, false, false, false, false, false, false, false, false] rfl rfl (any_of HT_.out (by kernel_rfl)) (fun _ _ _ h => h) (Or.inl ⟨by rfl, ?_⟩) ?_ ?_
      rotate_left
      · intro w'
        go_simp
        with_reducible rfl
      rotate_left
      · simp only [Act.put, List.setIfInBounds_toArray, List.set_cons_zero, List.set_cons_succ]
        rfl
      refine pure_ (i := 3) (N := some 16) (v := ?_) (a' := ?_) #[true, true, true, true, false, false, false, false, false, false, false, false, false, false] rfl rfl (any_of HT_.out (by kernel_rfl)) (fun _ _ _ h => h) (Or.inl ⟨by rfl, ?_⟩) ?_ ?_
      rotate_left
      · intro w'
        go_simp
        with_reducible rfl
      rotate_left
      · simp only [Act.put, List.setIfInBounds_toArray, List.set_cons_zero, List.set_cons_succ]
        rfl
      refine pure_ (i := 4) (N := some 17) (v := ?_) (a' := ?_) #[true, true, true, true, true, false, false, false, false, false, false, false, false, false] rfl rfl (any_of HT_.out (by kernel_rfl)) (fun _ _ _ h => h) (Or.inl ⟨by rfl, ?_⟩) ?_ ?_
      rotate_left
      · intro w'
        go_simp
        with_reducible rfl
      rotate_left
      · simp only [Act.put, List.setIfInBounds_toArray, List.set_cons_zero, List.set_cons_succ]
        rfl
      refine pure_ (i := 5) (N := some 18) (v := ?_) (a' := ?_) #[true, true, true, true, true, true, false, false, false, false, false, false, false, false] rfl rfl (any_of HT_.out (by kernel_rfl)) (fun _ _ _ h => h) (Or.inl ⟨by rfl, ?_⟩) ?_ ?_
      rotate_left
      · intro w'
        go_simp
        with_reducible rfl
      rotate_left
      · simp only [Act.put, List.setIfInBounds_toArray, List.set_cons_zero, List.set_cons_succ]
        rfl
      refine pure_ (i := 6) (N := some 19) (v := ?_) (a' := ?_) #[true, true, true, true, true, true, true, false, false, false, false, false, false, false] rfl rfl (any_of HT_.out (by kernel_rfl)) (fun _ _ _ h => h) (Or.inl ⟨by rfl, ?_⟩) ?_ ?_
      rotate_left
      · intro w'
        go_simp
        with_reducible rfl
      rotate_left
      · simp only [Act.put, List.setIfInBounds_toArray, List.set_cons_zero, List.set_cons_succ]
        rfl
      refine pure_ (i := 7) (N := some 20) (v := ?_) (a' := ?_) #[true, true, true, true, true, true, true, true, false, false, false, false, false, false] rfl rfl (any_of HT_.out (by kernel_rfl)) (fun _ _ _ h => h) (Or.inl ⟨by rfl, ?_⟩) ?_ ?_
      rotate_left
      · intro w'
        go_simp
        with_reducible rfl
      rotate_left
      · simp only [Act.put, List.setIfInBounds_toArray, List.set_cons_zero, List.set_cons_succ]
        rfl
      refine pure_ (i := 8) (N := some 21) (v := ?_) (a' := ?_) #[true, true, true, true, true, true, true, true, true, false, false, false, false, false] rfl rfl (any_of HT_.out (by kernel_rfl)) (fun _ _ _ h => h) (Or.inl ⟨by rfl, ?_⟩) ?_ ?_
      rotate_left
      · intro w'
        go_simp
        with_reducible rfl
      rotate_left
      · simp only [Act.put, List.setIfInBounds_toArray, List.set_cons_zero, List.set_cons_succ]
        rfl
      refine take_ (i := 9) (N := some 22) (v := ?_) (a' := ?_) #[true, true, true, true, true, true, true, true, true, true, false, false, false, false] rfl rfl (take_ofW HT_.out HW_.out (by kernel_rfl)) (fun _ _ _ h => h) (Or.inl ⟨by rfl, ?_⟩) hHeld ?_ ?_
      rotate_left
      · intro w' hkt
        have s0 := (HZ.out.new (HN.out.trans hkt)).n_at
        go_simp
        with_reducible rfl
      rotate_left
      · simp only [Act.put, List.setIfInBounds_toArray, List.set_cons_zero, List.set_cons_succ]
        rfl
      refine pure_ (i := 10) (N := some 23) (v := ?_) (a' := ?_) #[true, true, true, true, true, true, true, true, true, true, true, false, false, false] rfl rfl (any_of HT_.out (by kernel_rfl)) (fun _ _ _ h => h) (Or.inl ⟨by rfl, ?_⟩) ?_ ?_
      rotate_left
      · intro w'
        go_simp
        with_reducible rfl
      rotate_left
      · simp only [Act.put, List.setIfInBounds_toArray, List.set_cons_zero, List.set_cons_succ]
        rfl
      refine pure_ (i := 11) (N := some 24) (v := ?_) (a' := ?_) #[true, true, true, true, true, true, true, true, true, true, true, true, false, false] rfl rfl (any_of HT_.out (by kernel_rfl)) (fun _ _ _ h => h) (Or.inl ⟨by rfl, ?_⟩) ?_ ?_
      rotate_left
      · intro w'
        go_simp
        with_reducible rfl
      rotate_left
      · simp only [Act.put, List.setIfInBounds_toArray, List.set_cons_zero, List.set_cons_succ]
        rfl
      have hownD := own_new HOW.out hHeld
      have hszD : w.heap.size ≤ wd.heap.size := Nat.le_trans HN.out.size hHeld.size
      have hel := zone_row_elems (HZ.out.new (HN.out.trans hHeld)) i (by omega)
      obtain ⟨v', w3, hrun, ho3, hg3, hb3⟩ := run_append_elems2 (P := Try.prog) wd w.heap.size 40 40 76 i0 (.int .i32 0) 1 4 Try.underlying40 hi0 hz0 hz1 hz2 rfl (by decide) _ _ _ hownD _ _ (z.n + 1) 9 _ hel (by rw [ints32_length, rowOf_length, Nat.mul_one]) (ints32_one _) (by have := hsq; unfold maxLen; omega) (by have := hsq; omega) hszD
      have hN3 : New w w3 := Fr.then (HN.out.trans hHeld) (Fr.of_grown (S := fun k => u3.ownBlock = some k) hg3 (fun k hk _ => hk)) (fun _ _ e => e) (fun k hk e => by have := (own_row hownD e).1; omega)
      refine last_ (i := 12) (N := some 25) #[true, true, true, true, true, true, true, true, true, true, true, true, true, false] rfl rfl (one_of HT_.out (by kernel_rfl)) (by decide) (fun K hK => ?_)
      refine gives_ (v := v') (w1 := w3) (by rfl) rfl (exec_app rfl rfl rfl hrun) ?_
      refine hK.out _ _ ?_
      clear hK K
      refine norm_ (a' := ?_) ?_ ?_
      rotate_left
      · show Act.put _ (some 25) _ = _
        simp only [Act.put, List.setIfInBounds_toArray, List.set_cons_zero, List.set_cons_succ]
        rfl
      refine pure_ (i := 13) (N := some 3) (v := ?_) (a' := ?_) #[true, true, true, true, true, true, true, true, true, true, true, true, true, true] rfl rfl (any_of HT_.out (by kernel_rfl)) (fun _ _ _ h => h) (Or.inl ⟨by rfl, ?_⟩) ?_ ?_
      rotate_left
      · intro w'
        go_simp
        with_reducible rfl
      rotate_left
      · simp only [Act.put, List.setIfInBounds_toArray, List.set_cons_zero, List.set_cons_succ]
        rfl
      refine done_ (done_of HT_.out (by kernel_rfl)) ?_
      go_wp2_with fail
      refine ⟨⟨i + 1, by omega, by go_num, ?_, hN3⟩, by simp [intOf] <;> omega⟩
      show World.ownsRow _ _ _ _ _ _ _
      rw [rowsTo_succ, Nat.succ_mul]
      have e1 : ints32 (rowsTo z i ++ rowOf z i) = ints32 (rowsTo z i) ++ ints32 (rowOf z i) := by simp [ints32]
      rw [e1]
      exact ho3
    · have hltz : ¬ (i : Int) < z.n + 1 := by omega
      have e : i = z.n + 1 := by omega
      have h1 := HOW.out
      rw [e] at h1
      clear e
      go_wp2_with fail
      go_ret
      exact ⟨_, rfl, by unfold cellsOf; rw [rowsTo_length]; exact h1, HN.out⟩
set_option maxHeartbeats 400000 in
theorem cells_any (b : Nat) (z : Zn) (w : World) (h : ZoneAt w b z) : Calls Try.prog 75 #[.pointer (some ⟨b, 0, none⟩)] w (CellsPost z w) := by
  have A := Lib.hid (all_any b z w h)
  clear h
  go_enter Try.func75, Try.ntmps75
  go_wp2_with fail
  refine A.out.mono ?_
  rintro e w1 ⟨v, rfl, ho, hn⟩
  have HO := Lib.hid ho
  clear ho
  go_wp2_with fail
  go_ret
  exact ⟨_, rfl, HO.out, hn⟩
set_option maxHeartbeats 400000 in
theorem cells_nil (w : World) : Calls Try.prog 75 #[.pointer none] w fun e w' => e = .returned (.slice none 0 0) ∧ w = w' := by
  go_enter Try.func75, Try.ntmps75
  go_wp2
  go_ret
  exact ⟨rfl, rfl⟩
theorem cellsOf_length (z : Zn) : (cellsOf z).length = (z.n + 1) * (z.n + 1) := rowsTo_length z _
theorem cellsOf_get (z : Zn) {i j : Nat} (hi : i ≤ z.n) (hj : j ≤ z.n) : (cellsOf z)[i * (z.n + 1) + j]? = some (gt z.Z (9 * i + j)) := rowsTo_get z hj (by omega)
end Go.Proofs.Ytapfihlgemejiaa
