/- rat: Add. -/
import Derived.Test.YtapfihlgemejiaaN12
namespace Go.Proofs.Ytapfihlgemejiaa
open Go.RowKit Go.Proofs.YtapfihlgemejiaaW.PrintLast

/-- Two fractions in their blocks, and the block of the result. -/
def Kr (w : World) (g1 g2 : Nat) (a b c d : Int) (z : Nat) (W : World) : Prop := Kp w g1 g2 a b c d W ∧ Row W z 75 [.int .i64 0, .int .i64 0] ∧ g1 < z ∧ g2 < z ∧ w.heap.size ≤ z
theorem kr_wide {f : FuncId} {args : Array Value} {w W : World} {g1 g2 z : Nat} {a b c d n : Int} (hc : Calls Try.prog f args W (WRes n W)) (hk : Kr w g1 g2 a b c d z W) :
    Calls Try.prog f args W fun e w' => ∃ h l s, IsW h l s n ∧ e = .returned (.agg #[.int .u64 (h : Int), .int .u64 (l : Int), .bool s]) ∧ Kr w g1 g2 a b c d z w' :=
  hc.mono fun _ _ ⟨h, l, s, hw, he, hn⟩ => ⟨h, l, s, hw, he, hk.1.new hn, hn.row hk.2.1, hk.2.2⟩
/-- What made answers. -/
def MadeIs (m n : Int) (x y er : Int) : Prop :=
  (In64 (quo m (Nat.gcd m.natAbs n.natAbs)) ∧ In64 (quo n (Nat.gcd m.natAbs n.natAbs)) ∧ x = quo m (Nat.gcd m.natAbs n.natAbs) ∧ y = quo n (Nat.gcd m.natAbs n.natAbs) ∧ er = 0) ∨ (x = 0 ∧ y = 0 ∧ er = 20)
theorem MadeRes.is {m n : Int} {w w' : World} {e : Ending} (h : MadeRes m n w e w') : ∃ x y er, MadeIs m n x y er ∧ e = .returned (.tuple #[.agg #[.int .i64 x, .int .i64 y], .int .i64 er]) ∧ New w w' := by
  obtain ⟨hn, ⟨h1, h2, he⟩ | ⟨_, he⟩⟩ := h
  · exact ⟨_, _, _, .inl ⟨h1, h2, rfl, rfl, rfl⟩, he, hn⟩
  · exact ⟨_, _, _, .inr ⟨rfl, rfl, rfl⟩, he, hn⟩
theorem kr_made {f : FuncId} {args : Array Value} {w W : World} {g1 g2 z : Nat} {a b c d m n : Int} (hc : Calls Try.prog f args W (MadeRes m n W)) (hk : Kr w g1 g2 a b c d z W) :
    Calls Try.prog f args W fun e w' => ∃ x y er, MadeIs m n x y er ∧ e = .returned (.tuple #[.agg #[.int .i64 x, .int .i64 y], .int .i64 er]) ∧ Kr w g1 g2 a b c d z w' :=
  hc.mono fun _ _ h => by
    obtain ⟨x, y, er, hm, he, hn⟩ := h.is
    exact ⟨x, y, er, hm, he, hk.1.new hn, hn.row hk.2.1, hk.2.2⟩
theorem Kr.set2 {w W : World} {g1 g2 z : Nat} {a b c d : Int} (h : Kr w g1 g2 a b c d z W) (i j : Nat) (u v : Value) :
    Kp w g1 g2 a b c d ((W.setCell ⟨z, i, none⟩ u).setCell ⟨z, j, none⟩ v) :=
  ⟨h.1.1.far2 z (by have := h.2.2.1; omega) i j u v, h.1.2.1.far2 z (by have := h.2.2.2.1; omega) i j u v, new_set (new_set h.1.2.2 z h.2.2.2.2 i u) z h.2.2.2.2 j v⟩
def addT : Bool × List (List Nat × List Nat) := (true, [([], []), ([0], [0]), ([], []), ([2], [2]), ([1, 3], [1, 3]), ([], []), ([5], [5]), ([], []), ([7], [7]), ([6, 8, 4], [6, 8]), ([4, 9, 9], [4, 9]), ([], []), ([11], [11]), ([], []), ([13], [13]), ([12, 14, 10], [12, 14]), ([10, 15, 15], [10, 15]), ([16], [16]), ([16], [16]), ([17, 16, 0, 1, 2, 3, 4, 5, 6, 7, 8, 9, 10, 11, 12, 13, 14, 15, 16, 17, 18], [17]), ([18, 19, 0, 1, 2, 3, 4, 5, 6, 7, 8, 9, 10, 11, 12, 13, 14, 15, 16, 17, 18, 19], [18])])
def addB : List Nat := [0, 1, 0, 4, 15, 0, 32, 0, 128, 511, 1023, 0, 2048, 0, 8192, 32767, 65535, 131071, 131071, 524287, 1048575]
theorem addTab : rtab .any (opsOf Try.f46 3) = addT := by kernel_rfl
theorem addBits : waitsOk addT.2 addB = true := by kernel_rfl
set_option maxHeartbeats 400000 in
theorem add_no (a b c d : Int) (ha : In64 a) (hb : In64 b) (hc : In64 c) (hd : In64 d) (h : (rightR a b && rightR c d) = false) (w : World) :
    Calls Try.prog 46 #[.agg #[.int .i64 a, .int .i64 b], .agg #[.int .i64 c, .int .i64 d]] w fun e w' => e = .returned (.tuple #[.agg #[.int .i64 0, .int .i64 0], .int .i64 7]) ∧ New w w' := by
  have BO := Lib.hid (fun W => both_any a b c d ha hb hc hd W)
  rw [h] at BO
  clear h ha hb hc hd
  go_enter Try.func46, Try.ntmps46
  go_wp2_with fail
  refine (BO.out _).mono ?_
  rintro e w1 ⟨rfl, hn⟩
  have hr := hn.row (Row.new_at ((w.alloc (.cells #[.int .i64 a, .int .i64 b] 75)).alloc (.cells #[.int .i64 c, .int .i64 d] 75)) 75 [.int .i64 0, .int .i64 0] (g := w.heap.size + 1 + 1) (by simp))
  have HN := Lib.hid (new_set (new_set (((((New.refl w).alloc _).alloc _).alloc _).trans hn) (w.heap.size + 1 + 1) (by omega) 0 (.int .i64 0)) (w.heap.size + 1 + 1) (by omega) 1 (.int .i64 0))
  have HR := Lib.hid ((hr.set 0 (.int .i64 0)).set 1 (.int .i64 0))
  have r0 : w1.cell? ⟨w.heap.size + 1 + 1, 0, none⟩ = some (.int .i64 0) := hr.cell 0
  have r1 : w1.cell? ⟨w.heap.size + 1 + 1, 1, none⟩ = some (.int .i64 0) := hr.cell 1
  have f0 := hr.free 0
  have f1 := hr.free 1
  have l5 := hr.lt
  clear hn hr BO
  go_wp2_with fail
  generalize (w1.setCell ⟨w.heap.size + 1 + 1, 0, none⟩ (.int .i64 0)).setCell ⟨w.heap.size + 1 + 1, 1, none⟩ (.int .i64 0) = w2 at *
  have q0 : w2.cell? ⟨w.heap.size + 1 + 1, 0, none⟩ = some (.int .i64 0) := HR.out.cell 0
  have q1 : w2.cell? ⟨w.heap.size + 1 + 1, 1, none⟩ = some (.int .i64 0) := HR.out.cell 1
  exact bodyPost_ret (v := .tuple #[.agg #[.int .i64 0, .int .i64 0], .int .i64 7]) (by simp [results, Try.results46, go_sem, q0, q1]) rfl ⟨rfl, HN.out⟩
set_option maxRecDepth 100000 in
set_option maxHeartbeats 8000000 in
theorem add_yes (a b c d : Int) (ha : In64 a) (hb : In64 b) (hc : In64 c) (hd : In64 d) (h : (rightR a b && rightR c d) = true) (w : World) :
    Calls Try.prog 46 #[.agg #[.int .i64 a, .int .i64 b], .agg #[.int .i64 c, .int .i64 d]] w fun e w' => ∃ x y er, MadeIs (a * d + c * b) (b * d) x y er ∧ e = .returned (.tuple #[.agg #[.int .i64 x, .int .i64 y], .int .i64 er]) ∧ New w w' := by
  have BO := Lib.hid (fun W => both_any a b c d ha hb hc hd W)
  rw [h] at BO
  obtain ⟨hb1, hd1⟩ : 1 ≤ b ∧ 1 ≤ d := by
    rw [Bool.and_eq_true] at h
    exact ⟨(rightR_pos h.1).1, (rightR_pos h.2).1⟩
  have hpos : 0 < b * d := Int.mul_pos (by omega) (by omega)
  have T1 := Lib.hid (fun W => times_any a d ha hd W)
  have T2 := Lib.hid (fun W => times_any c b hc hb W)
  have T3 := Lib.hid (fun W => times_any b d hb hd W)
  have q1 : (a * d).natAbs ≤ 9223372036854775808 * 9223372036854775808 := by rw [Int.natAbs_mul]; exact Nat.mul_le_mul ha.abs hd.abs
  have q2 : (c * b).natAbs ≤ 9223372036854775808 * 9223372036854775808 := by rw [Int.natAbs_mul]; exact Nat.mul_le_mul hc.abs hb.abs
  have q3 : (b * d).natAbs ≤ 9223372036854775808 * 9223372036854775808 := by rw [Int.natAbs_mul]; exact Nat.mul_le_mul hb.abs hd.abs
  have BD := Lib.hid (And.intro hpos (And.intro q1 (And.intro q2 q3)))
  clear h ha hb hc hd hb1 hd1 hpos q1 q2 q3
  go_enter Try.func46, Try.ntmps46
  go_wp2_with fail
  refine (BO.out _).mono ?_
  rintro e w1 ⟨rfl, hn⟩
  have hk : Kr w w.heap.size (w.heap.size + 1) a b c d (w.heap.size + 1 + 1) w1 :=
    ⟨⟨hn.row (((Row.new_at w 75 [.int .i64 a, .int .i64 b] rfl).alloc _).alloc _), hn.row ((Row.new_at (w.alloc (.cells #[.int .i64 a, .int .i64 b] 75)) 75 [.int .i64 c, .int .i64 d] (by simp)).alloc _), ((((New.refl w).alloc _).alloc _).alloc _).trans hn⟩,
     hn.row (Row.new_at ((w.alloc (.cells #[.int .i64 a, .int .i64 b] 75)).alloc (.cells #[.int .i64 c, .int .i64 d] 75)) 75 [.int .i64 0, .int .i64 0] (by simp)), by omega, by omega, by omega⟩
  have K1 := Lib.hid (fun W (hk : Kr w w.heap.size (w.heap.size + 1) a b c d (w.heap.size + 1 + 1) W) => kr_wide (T1.out W) hk)
  have K2 := Lib.hid (fun W (hk : Kr w w.heap.size (w.heap.size + 1) a b c d (w.heap.size + 1 + 1) W) => kr_wide (T2.out W) hk)
  have K4 := Lib.hid (fun W (hk : Kr w w.heap.size (w.heap.size + 1) a b c d (w.heap.size + 1 + 1) W) => kr_wide (T3.out W) hk)
  have K3 := Lib.hid (fun W h l s h' l' s' (hw : IsW h l s (a * d)) (hw' : IsW h' l' s' (c * b)) (hk : Kr w w.heap.size (w.heap.size + 1) a b c d (w.heap.size + 1 + 1) W) =>
    kr_wide (wsum_any h l h' l' s s' _ _ hw hw' (by have := BD.out; rw [hw.2.2.1, hw'.2.2.1]; omega) W) hk)
  have K5 := Lib.hid (fun W h l s h' l' s' (hw : IsW h l s (a * d + c * b)) (hw' : IsW h' l' s' (b * d)) (hk : Kr w w.heap.size (w.heap.size + 1) a b c d (w.heap.size + 1 + 1) W) =>
    kr_made (rmade_any h l h' l' s s' _ _ hw hw' BD.out.1 (by have := BD.out; rw [hw'.2.2.1]; omega) W) hk)
  clear hn BO T1 T2 T3
  go_wp2_with fail
  refine start_ (n := 21) (S := Kp w w.heap.size (w.heap.size + 1) a b c d) (ds := []) #[false, false, false, false, false, false, false, false, false, false, false, false, false, false, false, false, false, false, false, false, false] (by kernel_rfl) rfl rfl hk.1.drew (fun hHeld => ?_); refine with_tabW addTab addBits (fun HT_ HW_ => ?_)
  have hZ : Kr w w.heap.size (w.heap.size + 1) a b c d (w.heap.size + 1 + 1) w1.drew := ⟨hk.1.drew, hk.2.1.drew, hk.2.2⟩
  clear hk
  generalize w1.drew = w2 at hHeld hZ ⊢
  refine pure_ (i := 0) (N := some 11) (v := ?_) (a' := ?_) #[true, false, false, false, false, false, false, false, false, false, false, false, false, false, false, false, false, false, false, false, false] rfl rfl (any_of HT_.out (by kernel_rfl)) (fun _ _ _ h => h) (Or.inl ⟨by rfl, ?_⟩) ?_ ?_
  rotate_left
  · intro w'
    go_simp
    with_reducible rfl
  rotate_left
  · simp only [Act.put, List.setIfInBounds_toArray, List.set_cons_zero, List.set_cons_succ]
    rfl
  refine pure_ (i := 2) (N := some 13) (v := ?_) (a' := ?_) #[true, false, true, false, false, false, false, false, false, false, false, false, false, false, false, false, false, false, false, false, false] rfl rfl (any_of HT_.out (by kernel_rfl)) (fun _ _ _ h => h) (Or.inl ⟨by rfl, ?_⟩) ?_ ?_
  rotate_left
  · intro w'
    go_simp
    with_reducible rfl
  rotate_left
  · simp only [Act.put, List.setIfInBounds_toArray, List.set_cons_zero, List.set_cons_succ]
    rfl
  refine pure_ (i := 5) (N := some 16) (v := ?_) (a' := ?_) #[true, false, true, false, false, true, false, false, false, false, false, false, false, false, false, false, false, false, false, false, false] rfl rfl (any_of HT_.out (by kernel_rfl)) (fun _ _ _ h => h) (Or.inl ⟨by rfl, ?_⟩) ?_ ?_
  rotate_left
  · intro w'
    go_simp
    with_reducible rfl
  rotate_left
  · simp only [Act.put, List.setIfInBounds_toArray, List.set_cons_zero, List.set_cons_succ]
    rfl
  refine pure_ (i := 7) (N := some 18) (v := ?_) (a' := ?_) #[true, false, true, false, false, true, false, true, false, false, false, false, false, false, false, false, false, false, false, false, false] rfl rfl (any_of HT_.out (by kernel_rfl)) (fun _ _ _ h => h) (Or.inl ⟨by rfl, ?_⟩) ?_ ?_
  rotate_left
  · intro w'
    go_simp
    with_reducible rfl
  rotate_left
  · simp only [Act.put, List.setIfInBounds_toArray, List.set_cons_zero, List.set_cons_succ]
    rfl
  refine pure_ (i := 11) (N := some 22) (v := ?_) (a' := ?_) #[true, false, true, false, false, true, false, true, false, false, false, true, false, false, false, false, false, false, false, false, false] rfl rfl (any_of HT_.out (by kernel_rfl)) (fun _ _ _ h => h) (Or.inl ⟨by rfl, ?_⟩) ?_ ?_
  rotate_left
  · intro w'
    go_simp
    with_reducible rfl
  rotate_left
  · simp only [Act.put, List.setIfInBounds_toArray, List.set_cons_zero, List.set_cons_succ]
    rfl
  refine pure_ (i := 13) (N := some 24) (v := ?_) (a' := ?_) #[true, false, true, false, false, true, false, true, false, false, false, true, false, true, false, false, false, false, false, false, false] rfl rfl (any_of HT_.out (by kernel_rfl)) (fun _ _ _ h => h) (Or.inl ⟨by rfl, ?_⟩) ?_ ?_
  rotate_left
  · intro w'
    go_simp
    with_reducible rfl
  rotate_left
  · simp only [Act.put, List.setIfInBounds_toArray, List.set_cons_zero, List.set_cons_succ]
    rfl
  refine take_ (i := 1) (N := some 12) (v := ?_) (a' := ?_) #[true, true, true, false, false, true, false, true, false, false, false, true, false, true, false, false, false, false, false, false, false] rfl rfl (take_ofW HT_.out HW_.out (by kernel_rfl)) (fun _ _ _ h => h) (Or.inl ⟨by rfl, ?_⟩) hHeld ?_ ?_
  rotate_left
  · intro w' hkt
    obtain ⟨s0, s1, s2, s3, -⟩ := hkt.cells
    go_simp
    with_reducible rfl
  rotate_left
  · simp only [Act.put, List.setIfInBounds_toArray, List.set_cons_zero, List.set_cons_succ]
    rfl
  refine take_ (i := 3) (N := some 14) (v := ?_) (a' := ?_) #[true, true, true, true, false, true, false, true, false, false, false, true, false, true, false, false, false, false, false, false, false] rfl rfl (take_ofW HT_.out HW_.out (by kernel_rfl)) (fun _ _ _ h => h) (Or.inl ⟨by rfl, ?_⟩) hHeld ?_ ?_
  rotate_left
  · intro w' hkt
    obtain ⟨s0, s1, s2, s3, -⟩ := hkt.cells
    go_simp
    with_reducible rfl
  rotate_left
  · simp only [Act.put, List.setIfInBounds_toArray, List.set_cons_zero, List.set_cons_succ]
    rfl
  refine take_ (i := 6) (N := some 17) (v := ?_) (a' := ?_) #[true, true, true, true, false, true, true, true, false, false, false, true, false, true, false, false, false, false, false, false, false] rfl rfl (take_ofW HT_.out HW_.out (by kernel_rfl)) (fun _ _ _ h => h) (Or.inl ⟨by rfl, ?_⟩) hHeld ?_ ?_
  rotate_left
  · intro w' hkt
    obtain ⟨s0, s1, s2, s3, -⟩ := hkt.cells
    go_simp
    with_reducible rfl
  rotate_left
  · simp only [Act.put, List.setIfInBounds_toArray, List.set_cons_zero, List.set_cons_succ]
    rfl
  refine take_ (i := 8) (N := some 19) (v := ?_) (a' := ?_) #[true, true, true, true, false, true, true, true, true, false, false, true, false, true, false, false, false, false, false, false, false] rfl rfl (take_ofW HT_.out HW_.out (by kernel_rfl)) (fun _ _ _ h => h) (Or.inl ⟨by rfl, ?_⟩) hHeld ?_ ?_
  rotate_left
  · intro w' hkt
    obtain ⟨s0, s1, s2, s3, -⟩ := hkt.cells
    go_simp
    with_reducible rfl
  rotate_left
  · simp only [Act.put, List.setIfInBounds_toArray, List.set_cons_zero, List.set_cons_succ]
    rfl
  refine take_ (i := 12) (N := some 23) (v := ?_) (a' := ?_) #[true, true, true, true, false, true, true, true, true, false, false, true, true, true, false, false, false, false, false, false, false] rfl rfl (take_ofW HT_.out HW_.out (by kernel_rfl)) (fun _ _ _ h => h) (Or.inl ⟨by rfl, ?_⟩) hHeld ?_ ?_
  rotate_left
  · intro w' hkt
    obtain ⟨s0, s1, s2, s3, -⟩ := hkt.cells
    go_simp
    with_reducible rfl
  rotate_left
  · simp only [Act.put, List.setIfInBounds_toArray, List.set_cons_zero, List.set_cons_succ]
    rfl
  refine take_ (i := 14) (N := some 25) (v := ?_) (a' := ?_) #[true, true, true, true, false, true, true, true, true, false, false, true, true, true, true, false, false, false, false, false, false] rfl rfl (take_ofW HT_.out HW_.out (by kernel_rfl)) (fun _ _ _ h => h) (Or.inl ⟨by rfl, ?_⟩) hHeld ?_ ?_
  rotate_left
  · intro w' hkt
    obtain ⟨s0, s1, s2, s3, -⟩ := hkt.cells
    go_simp
    with_reducible rfl
  rotate_left
  · simp only [Act.put, List.setIfInBounds_toArray, List.set_cons_zero, List.set_cons_succ]
    rfl
  refine one_ (i := 4) (N := some 15) #[true, true, true, true, true, true, true, true, true, false, false, true, true, true, true, false, false, false, false, false, false] rfl rfl (one_of HT_.out (by kernel_rfl)) (by decide) (fun K hK => ?_)
  refine goes_ Try.func109 (by kernel_rfl) rfl #[.int .i64 a, .int .i64 d] (by rfl) rfl rfl (by (try simp only [List.map_toArray, List.map_cons, List.map_nil]); first | done | rfl) ?_
  refine (K1.out _ hZ).mono ?_
  rintro e v1 ⟨h1, l1, s1, hw1, rfl, hZn⟩
  refine ⟨_, rfl, ?_⟩
  refine hK.out _ _ hZn.1 (fun hHeld => ?_)
  clear hZ
  have hZ := hZn
  clear hZn
  clear hK K
  refine norm_ (a' := ?_) ?_ ?_
  rotate_left
  · show Act.put _ (some 15) _ = _
    simp only [Act.put, List.setIfInBounds_toArray, List.set_cons_zero, List.set_cons_succ]
    rfl
  refine one_ (i := 9) (N := some 20) #[true, true, true, true, true, true, true, true, true, true, false, true, true, true, true, false, false, false, false, false, false] rfl rfl (one_of HT_.out (by kernel_rfl)) (by decide) (fun K hK => ?_)
  refine goes_ Try.func109 (by kernel_rfl) rfl #[.int .i64 c, .int .i64 b] (by rfl) rfl rfl (by (try simp only [List.map_toArray, List.map_cons, List.map_nil]); first | done | rfl) ?_
  refine (K2.out _ hZ).mono ?_
  rintro e v2 ⟨h2, l2, s2, hw2, rfl, hZn⟩
  refine ⟨_, rfl, ?_⟩
  refine hK.out _ _ hZn.1 (fun hHeld => ?_)
  clear hZ
  have hZ := hZn
  clear hZn
  clear hK K
  refine norm_ (a' := ?_) ?_ ?_
  rotate_left
  · show Act.put _ (some 20) _ = _
    simp only [Act.put, List.setIfInBounds_toArray, List.set_cons_zero, List.set_cons_succ]
    rfl
  refine one_ (i := 10) (N := some 21) #[true, true, true, true, true, true, true, true, true, true, true, true, true, true, true, false, false, false, false, false, false] rfl rfl (one_of HT_.out (by kernel_rfl)) (by decide) (fun K hK => ?_)
  refine goes_ Try.func110 (by kernel_rfl) rfl #[.agg #[.int .u64 (h1 : Int), .int .u64 (l1 : Int), .bool s1], .agg #[.int .u64 (h2 : Int), .int .u64 (l2 : Int), .bool s2]] (by rfl) rfl rfl (by (try simp only [List.map_toArray, List.map_cons, List.map_nil]); first | done | rfl) ?_
  refine (K3.out _ _ _ _ _ _ _ hw1 hw2 hZ).mono ?_
  rintro e v3 ⟨h3, l3, s3, hw3, rfl, hZn⟩
  refine ⟨_, rfl, ?_⟩
  refine hK.out _ _ hZn.1 (fun hHeld => ?_)
  clear hZ
  have hZ := hZn
  clear hZn
  clear hK K
  refine norm_ (a' := ?_) ?_ ?_
  rotate_left
  · show Act.put _ (some 21) _ = _
    simp only [Act.put, List.setIfInBounds_toArray, List.set_cons_zero, List.set_cons_succ]
    rfl
  refine one_ (i := 15) (N := some 26) #[true, true, true, true, true, true, true, true, true, true, true, true, true, true, true, true, false, false, false, false, false] rfl rfl (one_of HT_.out (by kernel_rfl)) (by decide) (fun K hK => ?_)
  refine goes_ Try.func109 (by kernel_rfl) rfl #[.int .i64 b, .int .i64 d] (by rfl) rfl rfl (by (try simp only [List.map_toArray, List.map_cons, List.map_nil]); first | done | rfl) ?_
  refine (K4.out _ hZ).mono ?_
  rintro e v4 ⟨h4, l4, s4, hw4, rfl, hZn⟩
  refine ⟨_, rfl, ?_⟩
  refine hK.out _ _ hZn.1 (fun hHeld => ?_)
  clear hZ
  have hZ := hZn
  clear hZn
  clear hK K
  refine norm_ (a' := ?_) ?_ ?_
  rotate_left
  · show Act.put _ (some 26) _ = _
    simp only [Act.put, List.setIfInBounds_toArray, List.set_cons_zero, List.set_cons_succ]
    rfl
  refine one_ (i := 16) (N := some 27) #[true, true, true, true, true, true, true, true, true, true, true, true, true, true, true, true, true, false, false, false, false] rfl rfl (one_of HT_.out (by kernel_rfl)) (by decide) (fun K hK => ?_)
  refine goes_ Try.func115 (by kernel_rfl) rfl #[.agg #[.int .u64 (h3 : Int), .int .u64 (l3 : Int), .bool s3], .agg #[.int .u64 (h4 : Int), .int .u64 (l4 : Int), .bool s4]] (by rfl) rfl rfl (by (try simp only [List.map_toArray, List.map_cons, List.map_nil]); first | done | rfl) ?_
  refine (K5.out _ _ _ _ _ _ _ hw3 hw4 hZ).mono ?_
  rintro e v5 ⟨x, y, er, hm, rfl, hZn⟩
  refine ⟨_, rfl, ?_⟩
  refine hK.out _ _ hZn.1 (fun hHeld => ?_)
  clear hZ
  have hZ := hZn
  clear hZn
  clear hK K
  refine norm_ (a' := ?_) ?_ ?_
  rotate_left
  · show Act.put _ (some 27) _ = _
    simp only [Act.put, List.setIfInBounds_toArray, List.set_cons_zero, List.set_cons_succ]
    rfl
  refine pure_ (i := 17) (N := some 28) (v := ?_) (a' := ?_) #[true, true, true, true, true, true, true, true, true, true, true, true, true, true, true, true, true, true, false, false, false] rfl rfl (any_of HT_.out (by kernel_rfl)) (fun _ _ _ h => h) (Or.inl ⟨by rfl, ?_⟩) ?_ ?_
  rotate_left
  · intro w'
    go_simp
    with_reducible rfl
  rotate_left
  · simp only [Act.put, List.setIfInBounds_toArray, List.set_cons_zero, List.set_cons_succ]
    rfl
  refine pure_ (i := 18) (N := some 29) (v := ?_) (a' := ?_) #[true, true, true, true, true, true, true, true, true, true, true, true, true, true, true, true, true, true, true, false, false] rfl rfl (any_of HT_.out (by kernel_rfl)) (fun _ _ _ h => h) (Or.inl ⟨by rfl, ?_⟩) ?_ ?_
  rotate_left
  · intro w'
    go_simp
    with_reducible rfl
  rotate_left
  · simp only [Act.put, List.setIfInBounds_toArray, List.set_cons_zero, List.set_cons_succ]
    rfl
  refine one_ (i := 19) (N := none) #[true, true, true, true, true, true, true, true, true, true, true, true, true, true, true, true, true, true, true, true, false] rfl rfl (one_of HT_.out (by kernel_rfl)) (by decide) (fun K hK => ?_)
  have y0 : v5.cell? ⟨w.heap.size + 1 + 1, 0, none⟩ = some (.int .i64 0) := hZ.2.1.cell 0
  have y1 : v5.cell? ⟨w.heap.size + 1 + 1, 1, none⟩ = some (.int .i64 0) := hZ.2.1.cell 1
  have z0 := hZ.2.1.free 0
  have z1 := hZ.2.1.free 1
  refine skip_ (w1 := (v5.setCell ⟨w.heap.size + 1 + 1, 0, none⟩ (.int .i64 x)).setCell ⟨w.heap.size + 1 + 1, 1, none⟩ (.int .i64 y)) (by rfl) rfl (by go_simp) ?_
  refine hK.out _ _ (hZ.set2 0 1 _ _) (fun hHeld => ?_)
  clear hK K
  have R9 := (hZ.2.1.set 0 (.int .i64 x)).set 1 (.int .i64 y)
  clear y0 y1 z0 z1 hZ
  generalize (v5.setCell ⟨w.heap.size + 1 + 1, 0, none⟩ (.int .i64 x)).setCell ⟨w.heap.size + 1 + 1, 1, none⟩ (.int .i64 y) = w9 at R9 hHeld ⊢
  refine pure_ (i := 20) (N := some 5) (v := ?_) (a' := ?_) #[true, true, true, true, true, true, true, true, true, true, true, true, true, true, true, true, true, true, true, true, true] rfl rfl (any_of HT_.out (by kernel_rfl)) (fun _ _ _ h => h) (Or.inl ⟨by rfl, ?_⟩) ?_ ?_
  rotate_left
  · intro w'
    go_simp
    with_reducible rfl
  rotate_left
  · simp only [Act.put, List.setIfInBounds_toArray, List.set_cons_zero, List.set_cons_succ]
    rfl
  refine done_ (done_of HT_.out (by kernel_rfl)) ?_
  have q0 : w9.cell? ⟨w.heap.size + 1 + 1, 0, none⟩ = some (.int .i64 x) := R9.cell 0
  have q1 : w9.cell? ⟨w.heap.size + 1 + 1, 1, none⟩ = some (.int .i64 y) := R9.cell 1
  have HM := Lib.hid hm
  have HN := Lib.hid hHeld.2.2
  clear hm hHeld R9 hw1 hw2 hw3 hw4
  go_wp2_with fail
  exact bodyPost_ret (v := .tuple #[.agg #[.int .i64 x, .int .i64 y], .int .i64 er]) (by simp [results, Try.results46, go_sem, q0, q1]) rfl ⟨x, y, er, HM.out, rfl, HN.out⟩
end Go.Proofs.Ytapfihlgemejiaa
