/- gnomontop.TopNumbers: the law's walk. -/
import Derived.Test.YtapfihlgemejiaaN13
import Derived.Test.YtapfihlgemejiaaN15
namespace Go.Proofs.Ytapfihlgemejiaa
open Go.RowKit Go.Proofs.YtapfihlgemejiaaW.PrintLast

theorem rightR_whole (v : Int) : rightR v 1 = true := decide_eq_true ⟨by omega, Nat.gcd_one_right _⟩
theorem cmp_le {a b v : Int} (h : rightR a b = true) : decide (cmpR a b v 1 ≤ 0) = holdsB v true a b := by
  unfold cmpR holdsB sgn
  rw [h, rightR_whole]
  simp only [Bool.and_self, if_true, Int.mul_one, Bool.and_true]
  rw [Bool.eq_iff_iff]
  simp only [Bool.or_eq_true, decide_eq_true_eq]
  (repeat' split) <;> omega
theorem cmp_lt {a b v : Int} (h : rightR a b = true) : decide (cmpR a b v 1 < 0) = holdsB v false a b := by
  unfold cmpR holdsB sgn
  rw [h, rightR_whole]
  simp only [Bool.and_self, if_true, Int.mul_one, Bool.and_false, Bool.or_false]
  rw [Bool.eq_iff_iff]
  simp only [decide_eq_true_eq]
  (repeat' split) <;> omega
theorem quo_mul {m : Int} {g : Nat} (hd : g ∣ m.natAbs) : (g : Int) * quo m g = m := by
  have h := Nat.mul_div_cancel' hd
  have h' : (g : Int) * ((m.natAbs / g : Nat) : Int) = (m.natAbs : Int) := by rw [← Int.natCast_mul, h]
  unfold quo
  split
  · rw [Int.mul_neg, h']; omega
  · rw [h']; omega
/-- The sum of two that keep their bounds keeps the bounds' sum. -/
theorem sum_keeps {a b c d v w x y er : Int} (hb : 1 ≤ b) (hd : 1 ≤ d) (hm : MadeIs (a * d + c * b) (b * d) x y er) (he : er = 0) (hp : holdsB v true a b = true) (hq : holdsB w false c d = true) :
    In64 x ∧ In64 y ∧ 1 ≤ y ∧ holdsB (v + w) false x y = true := by
  rcases hm with ⟨i1, i2, hx, hy, _⟩ | ⟨_, _, h⟩
  · have hpos : 0 < b * d := Int.mul_pos (by omega) (by omega)
    have hg : 0 < Nat.gcd (a * d + c * b).natAbs (b * d).natAbs := Nat.gcd_pos_of_pos_right _ (by omega)
    have e1 := quo_mul (m := a * d + c * b) (Nat.gcd_dvd_left (a * d + c * b).natAbs (b * d).natAbs)
    have e2 := quo_mul (m := b * d) (Nat.gcd_dvd_right (a * d + c * b).natAbs (b * d).natAbs)
    rw [← hx] at i1 e1
    rw [← hy] at i2 e2
    generalize Nat.gcd (a * d + c * b).natAbs (b * d).natAbs = g at *
    have hg' : (0 : Int) < g := by omega
    have hy1 : 1 ≤ y := by
      have h5 : 0 < (g : Int) * y := by omega
      by_cases h9 : 1 ≤ y
      · exact h9
      · have := Int.mul_le_mul_of_nonneg_left (show y ≤ 0 by omega) (show 0 ≤ (g : Int) by omega)
        rw [Int.mul_zero] at this
        omega
    refine ⟨i1, i2, hy1, ?_⟩
    have h1 : a ≤ v * b := by
      unfold holdsB at hp
      simp only [Bool.and_true, Bool.or_eq_true, decide_eq_true_eq] at hp
      omega
    have h2 : c < w * d := by
      unfold holdsB at hq
      simp only [Bool.and_false, Bool.or_false, decide_eq_true_eq] at hq
      exact hq
    have h3 : a * d ≤ v * b * d := Int.mul_le_mul_of_nonneg_right h1 (by omega)
    have h4 : c * b < w * d * b := Int.mul_lt_mul_of_pos_right h2 (by omega)
    have h6 : (g : Int) * x < (g : Int) * ((v + w) * y) := by
      have e3 : (g : Int) * ((v + w) * y) = v * b * d + w * d * b := by
        rw [← Int.mul_assoc, Int.mul_comm (g : Int) (v + w), Int.mul_assoc, e2, Int.add_mul, Int.mul_assoc v b d, Int.mul_assoc w d b, Int.mul_comm d b]
      rw [e1, e3]; omega
    have h7 := Int.lt_of_mul_lt_mul_left h6 (by omega)
    unfold holdsB
    simp only [Bool.and_false, Bool.or_false, decide_eq_true_eq]
    exact h7
  · omega
/-- A fraction in its block. -/
def K1p (w : World) (g : Nat) (a b : Int) (W : World) : Prop := Row W g 75 [.int .i64 a, .int .i64 b] ∧ New w W
theorem K1p.new {w W W' : World} {g : Nat} {a b : Int} (h : K1p w g a b W) (hn : New W W') : K1p w g a b W' := ⟨hn.row h.1, h.2.trans hn⟩
def topT : Bool × List (List Nat × List Nat) := (true, [([], []), ([], []), ([1], [1]), ([2], [2]), ([3, 2], [3]), ([0, 4, 4], [0, 4]), ([5], [5]), ([6, 5, 0, 1, 2, 3, 4, 5, 6], [6])])
def topB : List Nat := [0, 0, 2, 6, 14, 31, 63, 127]
theorem topTab8 : rtab .any (opsOf Try.f7 8) = topT := by kernel_rfl
theorem topTab9 : rtab .any (opsOf Try.f7 9) = topT := by kernel_rfl
theorem topBits : waitsOk topT.2 topB = true := by kernel_rfl
set_option maxRecDepth 100000 in
set_option maxHeartbeats 8000000 in
theorem numbers_fa (n0 n1 a b c d : Int) (ha : In64 a) (hb : In64 b) (hc : In64 c) (hd : In64 d) (h1 : rightR a b = false) (w : World) :
    Calls Try.prog 7 #[.agg #[.int .i64 n0, .int .i64 n1], .agg #[.int .i64 a, .int .i64 b], .agg #[.int .i64 c, .int .i64 d]] w fun e w' => e = .returned (.bool true) ∧ New w w' := by
  have w0 := fun W => which_any n0 1000 (by omega) (by omega) W
  have w1 := fun W => which_any n1 1000 (by omega) (by omega) W
  have u0 := Int.emod_nonneg n0 (show (1000 : Int) ≠ 0 by omega)
  have u1 := Int.emod_lt_of_pos n0 (show (0 : Int) < 1000 by omega)
  have v0 := Int.emod_nonneg n1 (show (1000 : Int) ≠ 0 by omega)
  have v1 := Int.emod_lt_of_pos n1 (show (0 : Int) < 1000 by omega)
  generalize n0 % 1000 = u at *
  generalize n1 % 1000 = v at *
  have AM := Lib.hid (fun W => atMost_any (u - 500) (by omega) (by omega) W)
  have LT := Lib.hid (fun W => lessThan_any (v - 500) (by omega) (by omega) W)
  have RA := Lib.hid (fun W => right_any2 a b ha hb W)
  have RC := Lib.hid (fun W => right_any2 c d hc hd W)
  have Hu := Lib.hid (show IntKind.i64.wrap (u - 500) = u - 500 by rw [IntKind.wrap_i64]; omega)
  have Hv := Lib.hid (show IntKind.i64.wrap (v - 500) = v - 500 by rw [IntKind.wrap_i64]; omega)
  have W0 := Lib.hid w0
  have W1 := Lib.hid w1
  have hx0 : IntKind.i32.wrap (2 * (u - 500) + 1) = enc (u - 500) true := by unfold enc; rw [IntKind.wrap_i32]; simp; omega
  have hx2 : enc (u - 500) true = 2 * (u - 500) + 1 := by unfold enc; simp
  have hx3 : (enc (u - 500) true != 2 * (u - 500) + 1) = false := by rw [hx2]; simp
  have hx4 : (enc (u - 500) true == 2 * (u - 500) + 1) = true := by rw [hx2]; simp
  clear w0 w1 hx2
  have CM := Lib.hid (fun W => compare_rat a b c d ha hb hc hd W)
  have hcm : cmpR a b c d = 0 := by unfold cmpR; simp [h1]
  rw [hcm] at CM
  rw [h1] at RA
  clear ha hb hc hd h1 hcm 
  generalize enc (u - 500) true = bx at *
  generalize enc (v - 500) false = bz at *
  go_enter Try.func7, Try.ntmps7
  go_wp2_with fail
  go_region
  go_wp2_with fail
  refine (W0.out _).mono ?_
  rintro e w1 ⟨rfl, rfl⟩
  go_wp2_with fail
  refine (AM.out _).mono ?_
  rintro e w1 ⟨rfl, rfl⟩
  go_wp2_with fail
  refine (W1.out _).mono ?_
  rintro e w1 ⟨rfl, rfl⟩
  go_wp2_with fail
  refine (LT.out _).mono ?_
  rintro e w1 ⟨rfl, rfl⟩
  go_wp2_with fail
  refine (W0.out _).mono ?_
  rintro e w1 ⟨rfl, rfl⟩
  go_wp2_with fail
  refine (RA.out _).mono ?_
  rintro e w1 ⟨rfl, hn⟩
  have N_1 := Lib.hid (hn.row ((((Row.new_at w 73 [.int .i64 n0, .int .i64 n1] (g := w.heap.size) (by simp)).alloc (.cells #[.int .i64 a, .int .i64 b] 75)).alloc (.cells #[.int .i64 c, .int .i64 d] 75)).drew))
  have A_1 := Lib.hid (hn.row (((Row.new_at (w.alloc (.cells #[.int .i64 n0, .int .i64 n1] 73)) 75 [.int .i64 a, .int .i64 b] (g := w.heap.size + 1) (by simp)).alloc (.cells #[.int .i64 c, .int .i64 d] 75)).drew))
  have C_1 := Lib.hid (hn.row ((Row.new_at ((w.alloc (.cells #[.int .i64 n0, .int .i64 n1] 73)).alloc (.cells #[.int .i64 a, .int .i64 b] 75)) 75 [.int .i64 c, .int .i64 d] (g := w.heap.size + 1 + 1) (by simp)).drew))
  have N1 := Lib.hid ((((((New.refl w).alloc (.cells #[.int .i64 n0, .int .i64 n1] 73)).alloc (.cells #[.int .i64 a, .int .i64 b] 75)).alloc (.cells #[.int .i64 c, .int .i64 d] 75)).drew).trans hn)
  clear hn
  have cN_1_0 : w1.cell? ⟨w.heap.size, 0, none⟩ = some (.int .i64 n0) := N_1.out.cell 0
  have cN_1_1 : w1.cell? ⟨w.heap.size, 1, none⟩ = some (.int .i64 n1) := N_1.out.cell 1
  have lN_1 : w.heap.size < w1.heap.size := N_1.out.lt
  have cA_1_0 : w1.cell? ⟨w.heap.size + 1, 0, none⟩ = some (.int .i64 a) := A_1.out.cell 0
  have cA_1_1 : w1.cell? ⟨w.heap.size + 1, 1, none⟩ = some (.int .i64 b) := A_1.out.cell 1
  have lA_1 : w.heap.size + 1 < w1.heap.size := A_1.out.lt
  have cC_1_0 : w1.cell? ⟨w.heap.size + 1 + 1, 0, none⟩ = some (.int .i64 c) := C_1.out.cell 0
  have cC_1_1 : w1.cell? ⟨w.heap.size + 1 + 1, 1, none⟩ = some (.int .i64 d) := C_1.out.cell 1
  have lC_1 : w.heap.size + 1 + 1 < w1.heap.size := C_1.out.lt
  go_wp2_with fail
  refine (CM.out _).mono ?_
  rintro e w2 ⟨rfl, hn⟩
  have N_2 := Lib.hid (hn.row (N_1.out))
  have A_2 := Lib.hid (hn.row (A_1.out))
  have C_2 := Lib.hid (hn.row (C_1.out))
  have N2 := Lib.hid ((N1.out).trans hn)
  clear hn cN_1_0 cN_1_1 lN_1 cA_1_0 cA_1_1 lA_1 cC_1_0 cC_1_1 lC_1 N_1 A_1 C_1 N1
  have cN_2_0 : w2.cell? ⟨w.heap.size, 0, none⟩ = some (.int .i64 n0) := N_2.out.cell 0
  have cN_2_1 : w2.cell? ⟨w.heap.size, 1, none⟩ = some (.int .i64 n1) := N_2.out.cell 1
  have lN_2 : w.heap.size < w2.heap.size := N_2.out.lt
  have cA_2_0 : w2.cell? ⟨w.heap.size + 1, 0, none⟩ = some (.int .i64 a) := A_2.out.cell 0
  have cA_2_1 : w2.cell? ⟨w.heap.size + 1, 1, none⟩ = some (.int .i64 b) := A_2.out.cell 1
  have lA_2 : w.heap.size + 1 < w2.heap.size := A_2.out.lt
  have cC_2_0 : w2.cell? ⟨w.heap.size + 1 + 1, 0, none⟩ = some (.int .i64 c) := C_2.out.cell 0
  have cC_2_1 : w2.cell? ⟨w.heap.size + 1 + 1, 1, none⟩ = some (.int .i64 d) := C_2.out.cell 1
  have lC_2 : w.heap.size + 1 + 1 < w2.heap.size := C_2.out.lt
  go_wp2_with fail
  go_ret
  exact ⟨rfl, N2.out⟩
set_option maxRecDepth 100000 in
set_option maxHeartbeats 8000000 in
theorem numbers_fc (n0 n1 a b c d : Int) (ha : In64 a) (hb : In64 b) (hc : In64 c) (hd : In64 d) (h1 : rightR a b = true) (h2 : rightR c d = false) (w : World) :
    Calls Try.prog 7 #[.agg #[.int .i64 n0, .int .i64 n1], .agg #[.int .i64 a, .int .i64 b], .agg #[.int .i64 c, .int .i64 d]] w fun e w' => e = .returned (.bool true) ∧ New w w' := by
  have w0 := fun W => which_any n0 1000 (by omega) (by omega) W
  have w1 := fun W => which_any n1 1000 (by omega) (by omega) W
  have u0 := Int.emod_nonneg n0 (show (1000 : Int) ≠ 0 by omega)
  have u1 := Int.emod_lt_of_pos n0 (show (0 : Int) < 1000 by omega)
  have v0 := Int.emod_nonneg n1 (show (1000 : Int) ≠ 0 by omega)
  have v1 := Int.emod_lt_of_pos n1 (show (0 : Int) < 1000 by omega)
  generalize n0 % 1000 = u at *
  generalize n1 % 1000 = v at *
  have AM := Lib.hid (fun W => atMost_any (u - 500) (by omega) (by omega) W)
  have LT := Lib.hid (fun W => lessThan_any (v - 500) (by omega) (by omega) W)
  have RA := Lib.hid (fun W => right_any2 a b ha hb W)
  have RC := Lib.hid (fun W => right_any2 c d hc hd W)
  have Hu := Lib.hid (show IntKind.i64.wrap (u - 500) = u - 500 by rw [IntKind.wrap_i64]; omega)
  have Hv := Lib.hid (show IntKind.i64.wrap (v - 500) = v - 500 by rw [IntKind.wrap_i64]; omega)
  have W0 := Lib.hid w0
  have W1 := Lib.hid w1
  have hx0 : IntKind.i32.wrap (2 * (u - 500) + 1) = enc (u - 500) true := by unfold enc; rw [IntKind.wrap_i32]; simp; omega
  have hx2 : enc (u - 500) true = 2 * (u - 500) + 1 := by unfold enc; simp
  have hx3 : (enc (u - 500) true != 2 * (u - 500) + 1) = false := by rw [hx2]; simp
  have hx4 : (enc (u - 500) true == 2 * (u - 500) + 1) = true := by rw [hx2]; simp
  clear w0 w1 hx2
  have CM := Lib.hid (fun W => compare_rat a b c d ha hb hc hd W)
  have hcm : cmpR a b c d = 0 := by unfold cmpR; simp [h1, h2]
  rw [hcm] at CM
  rw [h1] at RA
  rw [h2] at RC
  clear ha hb hc hd h1 hcm h2
  generalize enc (u - 500) true = bx at *
  generalize enc (v - 500) false = bz at *
  go_enter Try.func7, Try.ntmps7
  go_wp2_with fail
  go_region
  go_wp2_with fail
  refine (W0.out _).mono ?_
  rintro e w1 ⟨rfl, rfl⟩
  go_wp2_with fail
  refine (AM.out _).mono ?_
  rintro e w1 ⟨rfl, rfl⟩
  go_wp2_with fail
  refine (W1.out _).mono ?_
  rintro e w1 ⟨rfl, rfl⟩
  go_wp2_with fail
  refine (LT.out _).mono ?_
  rintro e w1 ⟨rfl, rfl⟩
  go_wp2_with fail
  refine (W0.out _).mono ?_
  rintro e w1 ⟨rfl, rfl⟩
  go_wp2_with fail
  refine (RA.out _).mono ?_
  rintro e w1 ⟨rfl, hn⟩
  have N_1 := Lib.hid (hn.row ((((Row.new_at w 73 [.int .i64 n0, .int .i64 n1] (g := w.heap.size) (by simp)).alloc (.cells #[.int .i64 a, .int .i64 b] 75)).alloc (.cells #[.int .i64 c, .int .i64 d] 75)).drew))
  have A_1 := Lib.hid (hn.row (((Row.new_at (w.alloc (.cells #[.int .i64 n0, .int .i64 n1] 73)) 75 [.int .i64 a, .int .i64 b] (g := w.heap.size + 1) (by simp)).alloc (.cells #[.int .i64 c, .int .i64 d] 75)).drew))
  have C_1 := Lib.hid (hn.row ((Row.new_at ((w.alloc (.cells #[.int .i64 n0, .int .i64 n1] 73)).alloc (.cells #[.int .i64 a, .int .i64 b] 75)) 75 [.int .i64 c, .int .i64 d] (g := w.heap.size + 1 + 1) (by simp)).drew))
  have N1 := Lib.hid ((((((New.refl w).alloc (.cells #[.int .i64 n0, .int .i64 n1] 73)).alloc (.cells #[.int .i64 a, .int .i64 b] 75)).alloc (.cells #[.int .i64 c, .int .i64 d] 75)).drew).trans hn)
  clear hn
  have cN_1_0 : w1.cell? ⟨w.heap.size, 0, none⟩ = some (.int .i64 n0) := N_1.out.cell 0
  have cN_1_1 : w1.cell? ⟨w.heap.size, 1, none⟩ = some (.int .i64 n1) := N_1.out.cell 1
  have lN_1 : w.heap.size < w1.heap.size := N_1.out.lt
  have cA_1_0 : w1.cell? ⟨w.heap.size + 1, 0, none⟩ = some (.int .i64 a) := A_1.out.cell 0
  have cA_1_1 : w1.cell? ⟨w.heap.size + 1, 1, none⟩ = some (.int .i64 b) := A_1.out.cell 1
  have lA_1 : w.heap.size + 1 < w1.heap.size := A_1.out.lt
  have cC_1_0 : w1.cell? ⟨w.heap.size + 1 + 1, 0, none⟩ = some (.int .i64 c) := C_1.out.cell 0
  have cC_1_1 : w1.cell? ⟨w.heap.size + 1 + 1, 1, none⟩ = some (.int .i64 d) := C_1.out.cell 1
  have lC_1 : w.heap.size + 1 + 1 < w1.heap.size := C_1.out.lt
  go_wp2_with fail
  refine (RC.out _).mono ?_
  rintro e w2 ⟨rfl, hn⟩
  have N_2 := Lib.hid (hn.row (N_1.out))
  have A_2 := Lib.hid (hn.row (A_1.out))
  have C_2 := Lib.hid (hn.row (C_1.out))
  have N2 := Lib.hid ((N1.out).trans hn)
  clear hn cN_1_0 cN_1_1 lN_1 cA_1_0 cA_1_1 lA_1 cC_1_0 cC_1_1 lC_1 N_1 A_1 C_1 N1
  have cN_2_0 : w2.cell? ⟨w.heap.size, 0, none⟩ = some (.int .i64 n0) := N_2.out.cell 0
  have cN_2_1 : w2.cell? ⟨w.heap.size, 1, none⟩ = some (.int .i64 n1) := N_2.out.cell 1
  have lN_2 : w.heap.size < w2.heap.size := N_2.out.lt
  have cA_2_0 : w2.cell? ⟨w.heap.size + 1, 0, none⟩ = some (.int .i64 a) := A_2.out.cell 0
  have cA_2_1 : w2.cell? ⟨w.heap.size + 1, 1, none⟩ = some (.int .i64 b) := A_2.out.cell 1
  have lA_2 : w.heap.size + 1 < w2.heap.size := A_2.out.lt
  have cC_2_0 : w2.cell? ⟨w.heap.size + 1 + 1, 0, none⟩ = some (.int .i64 c) := C_2.out.cell 0
  have cC_2_1 : w2.cell? ⟨w.heap.size + 1 + 1, 1, none⟩ = some (.int .i64 d) := C_2.out.cell 1
  have lC_2 : w.heap.size + 1 + 1 < w2.heap.size := C_2.out.lt
  go_wp2_with fail
  refine (CM.out _).mono ?_
  rintro e w3 ⟨rfl, hn⟩
  have N_3 := Lib.hid (hn.row (N_2.out))
  have A_3 := Lib.hid (hn.row (A_2.out))
  have C_3 := Lib.hid (hn.row (C_2.out))
  have N3 := Lib.hid ((N2.out).trans hn)
  clear hn cN_2_0 cN_2_1 lN_2 cA_2_0 cA_2_1 lA_2 cC_2_0 cC_2_1 lC_2 N_2 A_2 C_2 N2
  have cN_3_0 : w3.cell? ⟨w.heap.size, 0, none⟩ = some (.int .i64 n0) := N_3.out.cell 0
  have cN_3_1 : w3.cell? ⟨w.heap.size, 1, none⟩ = some (.int .i64 n1) := N_3.out.cell 1
  have lN_3 : w.heap.size < w3.heap.size := N_3.out.lt
  have cA_3_0 : w3.cell? ⟨w.heap.size + 1, 0, none⟩ = some (.int .i64 a) := A_3.out.cell 0
  have cA_3_1 : w3.cell? ⟨w.heap.size + 1, 1, none⟩ = some (.int .i64 b) := A_3.out.cell 1
  have lA_3 : w.heap.size + 1 < w3.heap.size := A_3.out.lt
  have cC_3_0 : w3.cell? ⟨w.heap.size + 1 + 1, 0, none⟩ = some (.int .i64 c) := C_3.out.cell 0
  have cC_3_1 : w3.cell? ⟨w.heap.size + 1 + 1, 1, none⟩ = some (.int .i64 d) := C_3.out.cell 1
  have lC_3 : w.heap.size + 1 + 1 < w3.heap.size := C_3.out.lt
  go_wp2_with fail
  go_ret
  exact ⟨rfl, N3.out⟩
set_option maxRecDepth 100000 in
set_option maxHeartbeats 8000000 in
theorem numbers_both (n0 n1 a b c d : Int) (ha : In64 a) (hb : In64 b) (hc : In64 c) (hd : In64 d) (h1 : rightR a b = true) (h2 : rightR c d = true) (w : World) :
    Calls Try.prog 7 #[.agg #[.int .i64 n0, .int .i64 n1], .agg #[.int .i64 a, .int .i64 b], .agg #[.int .i64 c, .int .i64 d]] w fun e w' => e = .returned (.bool true) ∧ New w w' := by
  have w0 := fun W => which_any n0 1000 (by omega) (by omega) W
  have w1 := fun W => which_any n1 1000 (by omega) (by omega) W
  have u0 := Int.emod_nonneg n0 (show (1000 : Int) ≠ 0 by omega)
  have u1 := Int.emod_lt_of_pos n0 (show (0 : Int) < 1000 by omega)
  have v0 := Int.emod_nonneg n1 (show (1000 : Int) ≠ 0 by omega)
  have v1 := Int.emod_lt_of_pos n1 (show (0 : Int) < 1000 by omega)
  generalize n0 % 1000 = u at *
  generalize n1 % 1000 = v at *
  have AM := Lib.hid (fun W => atMost_any (u - 500) (by omega) (by omega) W)
  have LT := Lib.hid (fun W => lessThan_any (v - 500) (by omega) (by omega) W)
  have RA := Lib.hid (fun W => right_any2 a b ha hb W)
  have RC := Lib.hid (fun W => right_any2 c d hc hd W)
  have Hu := Lib.hid (show IntKind.i64.wrap (u - 500) = u - 500 by rw [IntKind.wrap_i64]; omega)
  have Hv := Lib.hid (show IntKind.i64.wrap (v - 500) = v - 500 by rw [IntKind.wrap_i64]; omega)
  have W0 := Lib.hid w0
  have W1 := Lib.hid w1
  have hx0 : IntKind.i32.wrap (2 * (u - 500) + 1) = enc (u - 500) true := by unfold enc; rw [IntKind.wrap_i32]; simp; omega
  have hx2 : enc (u - 500) true = 2 * (u - 500) + 1 := by unfold enc; simp
  have hx3 : (enc (u - 500) true != 2 * (u - 500) + 1) = false := by rw [hx2]; simp
  have hx4 : (enc (u - 500) true == 2 * (u - 500) + 1) = true := by rw [hx2]; simp
  clear w0 w1 hx2
  have CA := Lib.hid (fun W => compare_rat a b (u - 500) 1 ha hb ⟨by omega, by omega⟩ ⟨by omega, by omega⟩ W)
  have CC := Lib.hid (fun W => compare_rat c d (v - 500) 1 hc hd ⟨by omega, by omega⟩ ⟨by omega, by omega⟩ W)
  have PA := Lib.hid (cmp_le (v := u - 500) h1)
  have PC := Lib.hid (cmp_lt (v := v - 500) h2)
  have HA := Lib.hid (fun W => holds_any (u - 500) true a b (by omega) (by omega) ha hb (rightR_pos h1).1 W)
  have HC := Lib.hid (fun W => holds_any (v - 500) false c d (by omega) (by omega) hc hd (rightR_pos h2).1 W)
  have AD := Lib.hid (fun W => add_yes a b c d ha hb hc hd (by rw [h1, h2]; rfl) W)
  have BA := Lib.hid (fun W => badd_any (u - 500) (v - 500) true false (by omega) (by omega) (by omega) (by omega) W)
  have SK := Lib.hid (fun x y er (hm : MadeIs (a * d + c * b) (b * d) x y er) he hp hq => sum_keeps (v := u - 500) (w := v - 500) (rightR_pos h1).1 (rightR_pos h2).1 hm he hp hq)
  have HS := Lib.hid (fun x y h1 h2 h3 W => holds_any (u - 500 + (v - 500)) false x y (by omega) (by omega) h1 h2 h3 W)
  rw [h1] at RA
  rw [h2] at RC
  clear ha hb hc hd h1 h2
  rw [show (true && false) = false from rfl] at BA
  generalize cmpR a b (u - 500) 1 = cva at *
  generalize cmpR c d (v - 500) 1 = cvc at *
  generalize holdsB (u - 500) true a b = p at *
  generalize holdsB (v - 500) false c d = q at *
  generalize enc (u - 500 + (v - 500)) false = bs at *
  generalize enc (u - 500) true = bx at *
  generalize enc (v - 500) false = bz at *
  go_enter Try.func7, Try.ntmps7
  go_wp2_with fail
  go_region
  go_wp2_with fail
  refine (W0.out _).mono ?_
  rintro e w1 ⟨rfl, rfl⟩
  go_wp2_with fail
  refine (AM.out _).mono ?_
  rintro e w1 ⟨rfl, rfl⟩
  go_wp2_with fail
  refine (W1.out _).mono ?_
  rintro e w1 ⟨rfl, rfl⟩
  go_wp2_with fail
  refine (LT.out _).mono ?_
  rintro e w1 ⟨rfl, rfl⟩
  go_wp2_with fail
  refine (W0.out _).mono ?_
  rintro e w1 ⟨rfl, rfl⟩
  go_wp2_with fail
  refine (RA.out _).mono ?_
  rintro e w1 ⟨rfl, hn⟩
  have N_1 := Lib.hid (hn.row ((((Row.new_at w 73 [.int .i64 n0, .int .i64 n1] (g := w.heap.size) (by simp)).alloc (.cells #[.int .i64 a, .int .i64 b] 75)).alloc (.cells #[.int .i64 c, .int .i64 d] 75)).drew))
  have A_1 := Lib.hid (hn.row (((Row.new_at (w.alloc (.cells #[.int .i64 n0, .int .i64 n1] 73)) 75 [.int .i64 a, .int .i64 b] (g := w.heap.size + 1) (by simp)).alloc (.cells #[.int .i64 c, .int .i64 d] 75)).drew))
  have C_1 := Lib.hid (hn.row ((Row.new_at ((w.alloc (.cells #[.int .i64 n0, .int .i64 n1] 73)).alloc (.cells #[.int .i64 a, .int .i64 b] 75)) 75 [.int .i64 c, .int .i64 d] (g := w.heap.size + 1 + 1) (by simp)).drew))
  have N1 := Lib.hid ((((((New.refl w).alloc (.cells #[.int .i64 n0, .int .i64 n1] 73)).alloc (.cells #[.int .i64 a, .int .i64 b] 75)).alloc (.cells #[.int .i64 c, .int .i64 d] 75)).drew).trans hn)
  clear hn
  have cN_1_0 : w1.cell? ⟨w.heap.size, 0, none⟩ = some (.int .i64 n0) := N_1.out.cell 0
  have cN_1_1 : w1.cell? ⟨w.heap.size, 1, none⟩ = some (.int .i64 n1) := N_1.out.cell 1
  have lN_1 : w.heap.size < w1.heap.size := N_1.out.lt
  have cA_1_0 : w1.cell? ⟨w.heap.size + 1, 0, none⟩ = some (.int .i64 a) := A_1.out.cell 0
  have cA_1_1 : w1.cell? ⟨w.heap.size + 1, 1, none⟩ = some (.int .i64 b) := A_1.out.cell 1
  have lA_1 : w.heap.size + 1 < w1.heap.size := A_1.out.lt
  have cC_1_0 : w1.cell? ⟨w.heap.size + 1 + 1, 0, none⟩ = some (.int .i64 c) := C_1.out.cell 0
  have cC_1_1 : w1.cell? ⟨w.heap.size + 1 + 1, 1, none⟩ = some (.int .i64 d) := C_1.out.cell 1
  have lC_1 : w.heap.size + 1 + 1 < w1.heap.size := C_1.out.lt
  go_wp2_with fail
  refine (RC.out _).mono ?_
  rintro e w2 ⟨rfl, hn⟩
  have N_2 := Lib.hid (hn.row (N_1.out))
  have A_2 := Lib.hid (hn.row (A_1.out))
  have C_2 := Lib.hid (hn.row (C_1.out))
  have N2 := Lib.hid ((N1.out).trans hn)
  clear hn cN_1_0 cN_1_1 lN_1 cA_1_0 cA_1_1 lA_1 cC_1_0 cC_1_1 lC_1 N_1 A_1 C_1 N1
  have cN_2_0 : w2.cell? ⟨w.heap.size, 0, none⟩ = some (.int .i64 n0) := N_2.out.cell 0
  have cN_2_1 : w2.cell? ⟨w.heap.size, 1, none⟩ = some (.int .i64 n1) := N_2.out.cell 1
  have lN_2 : w.heap.size < w2.heap.size := N_2.out.lt
  have cA_2_0 : w2.cell? ⟨w.heap.size + 1, 0, none⟩ = some (.int .i64 a) := A_2.out.cell 0
  have cA_2_1 : w2.cell? ⟨w.heap.size + 1, 1, none⟩ = some (.int .i64 b) := A_2.out.cell 1
  have lA_2 : w.heap.size + 1 < w2.heap.size := A_2.out.lt
  have cC_2_0 : w2.cell? ⟨w.heap.size + 1 + 1, 0, none⟩ = some (.int .i64 c) := C_2.out.cell 0
  have cC_2_1 : w2.cell? ⟨w.heap.size + 1 + 1, 1, none⟩ = some (.int .i64 d) := C_2.out.cell 1
  have lC_2 : w.heap.size + 1 + 1 < w2.heap.size := C_2.out.lt
  go_wp2_with fail
  go_cut [13] (fun c wq => c = .bool (decide (cva ≤ 0)) ∧ New w2 wq)
  case first =>
    have hk : K1p w2 (w.heap.size + 1) a b w2.drew := ⟨A_2.out.drew, (New.refl _).drew⟩
    clear cN_2_0 cN_2_1 lN_2 cA_2_0 cA_2_1 lA_2 cC_2_0 cC_2_1 lC_2
    refine start_ (n := 8) (S := K1p w2 (w.heap.size + 1) a b) (ds := []) #[false, false, false, false, false, false, false, false] (by kernel_rfl) rfl rfl hk (fun hHeld => ?_); refine with_tabW topTab8 topBits (fun HT_ HW_ => ?_)
    clear hk
    generalize w2.drew = v0 at hHeld ⊢
    refine pure_ (i := 1) (N := some 66) (v := ?_) (a' := ?_) #[false, true, false, false, false, false, false, false] rfl rfl (any_of HT_.out (by kernel_rfl)) (fun _ _ _ h => h) (Or.inl ⟨by rfl, ?_⟩) ?_ ?_
    rotate_left
    · intro w'
      go_simp
      with_reducible rfl
    rotate_left
    · simp only [Act.put, List.setIfInBounds_toArray, List.set_cons_zero, List.set_cons_succ]
      rfl
    refine take_ (i := 0) (N := some 65) (v := ?_) (a' := ?_) #[true, true, false, false, false, false, false, false] rfl rfl (take_ofW HT_.out HW_.out (by kernel_rfl)) (fun _ _ _ h => h) (Or.inl ⟨by rfl, ?_⟩) hHeld ?_ ?_
    rotate_left
    · intro w' hkt
      have s0 := hkt.1.cell 0
      have s1 := hkt.1.cell 1
      simp only [List.getElem?_cons_zero, List.getElem?_cons_succ] at s0 s1
      go_simp
      with_reducible rfl
    rotate_left
    · simp only [Act.put, List.setIfInBounds_toArray, List.set_cons_zero, List.set_cons_succ]
      rfl
    refine one_ (i := 2) (N := some 67) #[true, true, true, false, false, false, false, false] rfl rfl (one_of HT_.out (by kernel_rfl)) (by decide) (fun K hK => ?_)
    refine goes_ Try.func40 (by kernel_rfl) rfl #[.int .i64 n0, .int .i64 1000] (by rfl) rfl rfl (by (try simp only [List.map_toArray, List.map_cons, List.map_nil]); first | done | rfl) ?_
    refine (W0.out _).mono ?_
    rintro e v1 ⟨rfl, rfl⟩
    refine ⟨_, rfl, ?_⟩
    refine hK.out _ _ hHeld (fun hHeld => ?_)
    clear hK K
    refine norm_ (a' := ?_) ?_ ?_
    rotate_left
    · show Act.put _ (some 67) _ = _
      simp only [Act.put, List.setIfInBounds_toArray, List.set_cons_zero, List.set_cons_succ]
      rfl
    refine pure_ (i := 3) (N := some 68) (v := ?_) (a' := ?_) #[true, true, true, true, false, false, false, false] rfl rfl (any_of HT_.out (by kernel_rfl)) (fun _ _ _ h => h) (Or.inl ⟨by rfl, ?_⟩) ?_ ?_
    rotate_left
    · intro w'
      go_simp
      try simp only [Hu.out]
      with_reducible rfl
    rotate_left
    · simp only [Act.put, List.setIfInBounds_toArray, List.set_cons_zero, List.set_cons_succ]
      rfl
    refine one_ (i := 4) (N := some 69) #[true, true, true, true, true, false, false, false] rfl rfl (one_of HT_.out (by kernel_rfl)) (by decide) (fun K hK => ?_)
    refine goes_ Try.func44 (by kernel_rfl) rfl #[.int .i64 (u - 500)] (by rfl) rfl rfl (by (try simp only [List.map_toArray, List.map_cons, List.map_nil]); first | done | rfl) ?_
    refine (of_rat _ _).mono ?_
    rintro e v1 ⟨rfl, hn1⟩
    refine ⟨_, rfl, ?_⟩
    have hh := hHeld.new hn1
    clear hHeld hn1
    refine hK.out _ _ hh (fun hHeld => ?_)
    clear hh
    clear hK K
    refine norm_ (a' := ?_) ?_ ?_
    rotate_left
    · show Act.put _ (some 69) _ = _
      simp only [Act.put, List.setIfInBounds_toArray, List.set_cons_zero, List.set_cons_succ]
      rfl
    refine one_ (i := 5) (N := some 70) #[true, true, true, true, true, true, false, false] rfl rfl (one_of HT_.out (by kernel_rfl)) (by decide) (fun K hK => ?_)
    refine goes_ Try.func43 (by kernel_rfl) rfl #[.agg #[.int .i64 a, .int .i64 b], .agg #[.int .i64 (u - 500), .int .i64 1]] (by rfl) rfl rfl (by (try simp only [List.map_toArray, List.map_cons, List.map_nil]); first | done | rfl) ?_
    refine (CA.out _).mono ?_
    rintro e v2 ⟨rfl, hn1⟩
    refine ⟨_, rfl, ?_⟩
    have hh := hHeld.new hn1
    clear hHeld hn1
    refine hK.out _ _ hh (fun hHeld => ?_)
    clear hh
    clear hK K
    refine norm_ (a' := ?_) ?_ ?_
    rotate_left
    · show Act.put _ (some 70) _ = _
      simp only [Act.put, List.setIfInBounds_toArray, List.set_cons_zero, List.set_cons_succ]
      rfl
    refine pure_ (i := 6) (N := some 71) (v := ?_) (a' := ?_) #[true, true, true, true, true, true, true, false] rfl rfl (any_of HT_.out (by kernel_rfl)) (fun _ _ _ h => h) (Or.inl ⟨by rfl, ?_⟩) ?_ ?_
    rotate_left
    · intro w'
      go_simp
      with_reducible rfl
    rotate_left
    · simp only [Act.put, List.setIfInBounds_toArray, List.set_cons_zero, List.set_cons_succ]
      rfl
    refine pure_ (i := 7) (N := some 13) (v := ?_) (a' := ?_) #[true, true, true, true, true, true, true, true] rfl rfl (any_of HT_.out (by kernel_rfl)) (fun _ _ _ h => h) (Or.inl ⟨by rfl, ?_⟩) ?_ ?_
    rotate_left
    · intro w'
      go_simp
      with_reducible rfl
    rotate_left
    · simp only [Act.put, List.setIfInBounds_toArray, List.set_cons_zero, List.set_cons_succ]
      rfl
    refine done_ (done_of HT_.out (by kernel_rfl)) ?_
    go_wp2
    go_meet
    case rel => exact ⟨rfl, hHeld.2⟩
  case rest =>
    obtain ⟨rfl, hn⟩ := hcut
    rw [PA.out]
    have N_3 := Lib.hid (hn.row (N_2.out))
    have A_3 := Lib.hid (hn.row (A_2.out))
    have C_3 := Lib.hid (hn.row (C_2.out))
    have N3 := Lib.hid ((N2.out).trans hn)
    clear hn cN_2_0 cN_2_1 lN_2 cA_2_0 cA_2_1 lA_2 cC_2_0 cC_2_1 lC_2 N_2 A_2 C_2 N2
    have cN_3_0 : wc.cell? ⟨w.heap.size, 0, none⟩ = some (.int .i64 n0) := N_3.out.cell 0
    have cN_3_1 : wc.cell? ⟨w.heap.size, 1, none⟩ = some (.int .i64 n1) := N_3.out.cell 1
    have lN_3 : w.heap.size < wc.heap.size := N_3.out.lt
    have cA_3_0 : wc.cell? ⟨w.heap.size + 1, 0, none⟩ = some (.int .i64 a) := A_3.out.cell 0
    have cA_3_1 : wc.cell? ⟨w.heap.size + 1, 1, none⟩ = some (.int .i64 b) := A_3.out.cell 1
    have lA_3 : w.heap.size + 1 < wc.heap.size := A_3.out.lt
    have cC_3_0 : wc.cell? ⟨w.heap.size + 1 + 1, 0, none⟩ = some (.int .i64 c) := C_3.out.cell 0
    have cC_3_1 : wc.cell? ⟨w.heap.size + 1 + 1, 1, none⟩ = some (.int .i64 d) := C_3.out.cell 1
    have lC_3 : w.heap.size + 1 + 1 < wc.heap.size := C_3.out.lt
    go_wp2_with fail
    go_cut [14] (fun c wq => c = .bool (decide (cvc < 0)) ∧ New wc wq)
    case first =>
      have hk : K1p wc (w.heap.size + 1 + 1) c d wc.drew := ⟨C_3.out.drew, (New.refl _).drew⟩
      clear cN_3_0 cN_3_1 lN_3 cA_3_0 cA_3_1 lA_3 cC_3_0 cC_3_1 lC_3
      refine start_ (n := 8) (S := K1p wc (w.heap.size + 1 + 1) c d) (ds := []) #[false, false, false, false, false, false, false, false] (by kernel_rfl) rfl rfl hk (fun hHeld => ?_); refine with_tabW topTab9 topBits (fun HT_ HW_ => ?_)
      clear hk
      generalize wc.drew = v0 at hHeld ⊢
      refine pure_ (i := 1) (N := some 73) (v := ?_) (a' := ?_) #[false, true, false, false, false, false, false, false] rfl rfl (any_of HT_.out (by kernel_rfl)) (fun _ _ _ h => h) (Or.inl ⟨by rfl, ?_⟩) ?_ ?_
      rotate_left
      · intro w'
        go_simp
        with_reducible rfl
      rotate_left
      · simp only [Act.put, List.setIfInBounds_toArray, List.set_cons_zero, List.set_cons_succ]
        rfl
      refine take_ (i := 0) (N := some 72) (v := ?_) (a' := ?_) #[true, true, false, false, false, false, false, false] rfl rfl (take_ofW HT_.out HW_.out (by kernel_rfl)) (fun _ _ _ h => h) (Or.inl ⟨by rfl, ?_⟩) hHeld ?_ ?_
      rotate_left
      · intro w' hkt
        have s0 := hkt.1.cell 0
        have s1 := hkt.1.cell 1
        simp only [List.getElem?_cons_zero, List.getElem?_cons_succ] at s0 s1
        go_simp
        with_reducible rfl
      rotate_left
      · simp only [Act.put, List.setIfInBounds_toArray, List.set_cons_zero, List.set_cons_succ]
        rfl
      refine one_ (i := 2) (N := some 74) #[true, true, true, false, false, false, false, false] rfl rfl (one_of HT_.out (by kernel_rfl)) (by decide) (fun K hK => ?_)
      refine goes_ Try.func40 (by kernel_rfl) rfl #[.int .i64 n1, .int .i64 1000] (by rfl) rfl rfl (by (try simp only [List.map_toArray, List.map_cons, List.map_nil]); first | done | rfl) ?_
      refine (W1.out _).mono ?_
      rintro e v1 ⟨rfl, rfl⟩
      refine ⟨_, rfl, ?_⟩
      refine hK.out _ _ hHeld (fun hHeld => ?_)
      clear hK K
      refine norm_ (a' := ?_) ?_ ?_
      rotate_left
      · show Act.put _ (some 74) _ = _
        simp only [Act.put, List.setIfInBounds_toArray, List.set_cons_zero, List.set_cons_succ]
        rfl
      refine pure_ (i := 3) (N := some 75) (v := ?_) (a' := ?_) #[true, true, true, true, false, false, false, false] rfl rfl (any_of HT_.out (by kernel_rfl)) (fun _ _ _ h => h) (Or.inl ⟨by rfl, ?_⟩) ?_ ?_
      rotate_left
      · intro w'
        go_simp
        try simp only [Hv.out]
        with_reducible rfl
      rotate_left
      · simp only [Act.put, List.setIfInBounds_toArray, List.set_cons_zero, List.set_cons_succ]
        rfl
      refine one_ (i := 4) (N := some 76) #[true, true, true, true, true, false, false, false] rfl rfl (one_of HT_.out (by kernel_rfl)) (by decide) (fun K hK => ?_)
      refine goes_ Try.func44 (by kernel_rfl) rfl #[.int .i64 (v - 500)] (by rfl) rfl rfl (by (try simp only [List.map_toArray, List.map_cons, List.map_nil]); first | done | rfl) ?_
      refine (of_rat _ _).mono ?_
      rintro e v1 ⟨rfl, hn1⟩
      refine ⟨_, rfl, ?_⟩
      have hh := hHeld.new hn1
      clear hHeld hn1
      refine hK.out _ _ hh (fun hHeld => ?_)
      clear hh
      clear hK K
      refine norm_ (a' := ?_) ?_ ?_
      rotate_left
      · show Act.put _ (some 76) _ = _
        simp only [Act.put, List.setIfInBounds_toArray, List.set_cons_zero, List.set_cons_succ]
        rfl
      refine one_ (i := 5) (N := some 77) #[true, true, true, true, true, true, false, false] rfl rfl (one_of HT_.out (by kernel_rfl)) (by decide) (fun K hK => ?_)
      refine goes_ Try.func43 (by kernel_rfl) rfl #[.agg #[.int .i64 c, .int .i64 d], .agg #[.int .i64 (v - 500), .int .i64 1]] (by rfl) rfl rfl (by (try simp only [List.map_toArray, List.map_cons, List.map_nil]); first | done | rfl) ?_
      refine (CC.out _).mono ?_
      rintro e v2 ⟨rfl, hn1⟩
      refine ⟨_, rfl, ?_⟩
      have hh := hHeld.new hn1
      clear hHeld hn1
      refine hK.out _ _ hh (fun hHeld => ?_)
      clear hh
      clear hK K
      refine norm_ (a' := ?_) ?_ ?_
      rotate_left
      · show Act.put _ (some 77) _ = _
        simp only [Act.put, List.setIfInBounds_toArray, List.set_cons_zero, List.set_cons_succ]
        rfl
      refine pure_ (i := 6) (N := some 78) (v := ?_) (a' := ?_) #[true, true, true, true, true, true, true, false] rfl rfl (any_of HT_.out (by kernel_rfl)) (fun _ _ _ h => h) (Or.inl ⟨by rfl, ?_⟩) ?_ ?_
      rotate_left
      · intro w'
        go_simp
        with_reducible rfl
      rotate_left
      · simp only [Act.put, List.setIfInBounds_toArray, List.set_cons_zero, List.set_cons_succ]
        rfl
      refine pure_ (i := 7) (N := some 14) (v := ?_) (a' := ?_) #[true, true, true, true, true, true, true, true] rfl rfl (any_of HT_.out (by kernel_rfl)) (fun _ _ _ h => h) (Or.inl ⟨by rfl, ?_⟩) ?_ ?_
      rotate_left
      · intro w'
        go_simp
        with_reducible rfl
      rotate_left
      · simp only [Act.put, List.setIfInBounds_toArray, List.set_cons_zero, List.set_cons_succ]
        rfl
      refine done_ (done_of HT_.out (by kernel_rfl)) ?_
      go_wp2
      go_meet
      case rel => exact ⟨rfl, hHeld.2⟩
    case rest =>
      obtain ⟨rfl, hn⟩ := hcut
      rw [PC.out]
      have N_4 := Lib.hid (hn.row (N_3.out))
      have A_4 := Lib.hid (hn.row (A_3.out))
      have C_4 := Lib.hid (hn.row (C_3.out))
      have N4 := Lib.hid ((N3.out).trans hn)
      clear hn cN_3_0 cN_3_1 lN_3 cA_3_0 cA_3_1 lA_3 cC_3_0 cC_3_1 lC_3 N_3 A_3 C_3 N3
      have cN_4_0 : wc.cell? ⟨w.heap.size, 0, none⟩ = some (.int .i64 n0) := N_4.out.cell 0
      have cN_4_1 : wc.cell? ⟨w.heap.size, 1, none⟩ = some (.int .i64 n1) := N_4.out.cell 1
      have lN_4 : w.heap.size < wc.heap.size := N_4.out.lt
      have cA_4_0 : wc.cell? ⟨w.heap.size + 1, 0, none⟩ = some (.int .i64 a) := A_4.out.cell 0
      have cA_4_1 : wc.cell? ⟨w.heap.size + 1, 1, none⟩ = some (.int .i64 b) := A_4.out.cell 1
      have lA_4 : w.heap.size + 1 < wc.heap.size := A_4.out.lt
      have cC_4_0 : wc.cell? ⟨w.heap.size + 1 + 1, 0, none⟩ = some (.int .i64 c) := C_4.out.cell 0
      have cC_4_1 : wc.cell? ⟨w.heap.size + 1 + 1, 1, none⟩ = some (.int .i64 d) := C_4.out.cell 1
      have lC_4 : w.heap.size + 1 + 1 < wc.heap.size := C_4.out.lt
      go_wp2_with fail
      refine (HA.out _).mono ?_
      rintro e w5 ⟨rfl, rfl⟩
      go_wp2_with fail
      refine (HC.out _).mono ?_
      rintro e w5 ⟨rfl, rfl⟩
      go_wp2_with fail
      refine (AD.out _).mono ?_
      rintro e w5 ⟨x, y, er, hm, rfl, hn⟩
      have her : er = 0 ∨ er = 20 := by
        rcases hm with ⟨_, _, _, _, h⟩ | ⟨_, _, h⟩
        · exact .inl h
        · exact .inr h
      have SK2 := Lib.hid (fun he hp hq => SK.out x y er hm he hp hq)
      clear hm SK AD HA HC CA CC PA PC
      have N_5 := Lib.hid (hn.row (N_4.out))
      have A_5 := Lib.hid (hn.row (A_4.out))
      have C_5 := Lib.hid (hn.row (C_4.out))
      have N5 := Lib.hid ((N4.out).trans hn)
      clear hn cN_4_0 cN_4_1 lN_4 cA_4_0 cA_4_1 lA_4 cC_4_0 cC_4_1 lC_4 N_4 A_4 C_4 N4
      have cN_5_0 : w5.cell? ⟨w.heap.size, 0, none⟩ = some (.int .i64 n0) := N_5.out.cell 0
      have cN_5_1 : w5.cell? ⟨w.heap.size, 1, none⟩ = some (.int .i64 n1) := N_5.out.cell 1
      have lN_5 : w.heap.size < w5.heap.size := N_5.out.lt
      have cA_5_0 : w5.cell? ⟨w.heap.size + 1, 0, none⟩ = some (.int .i64 a) := A_5.out.cell 0
      have cA_5_1 : w5.cell? ⟨w.heap.size + 1, 1, none⟩ = some (.int .i64 b) := A_5.out.cell 1
      have lA_5 : w.heap.size + 1 < w5.heap.size := A_5.out.lt
      have cC_5_0 : w5.cell? ⟨w.heap.size + 1 + 1, 0, none⟩ = some (.int .i64 c) := C_5.out.cell 0
      have cC_5_1 : w5.cell? ⟨w.heap.size + 1 + 1, 1, none⟩ = some (.int .i64 d) := C_5.out.cell 1
      have lC_5 : w.heap.size + 1 + 1 < w5.heap.size := C_5.out.lt
      go_wp2_with fail
      refine (BA.out _).mono ?_
      rintro e w6 ⟨rfl, hn⟩
      have N_6 := Lib.hid (hn.row ((N_5.out.alloc (.cells #[.int .i64 x, .int .i64 y] 75))))
      have A_6 := Lib.hid (hn.row ((A_5.out.alloc (.cells #[.int .i64 x, .int .i64 y] 75))))
      have C_6 := Lib.hid (hn.row ((C_5.out.alloc (.cells #[.int .i64 x, .int .i64 y] 75))))
      have S_6 := Lib.hid (hn.row ((Row.new_at w5 75 [.int .i64 x, .int .i64 y] (g := w5.heap.size) (by simp))))
      have N6 := Lib.hid (((N5.out.alloc (.cells #[.int .i64 x, .int .i64 y] 75))).trans hn)
      clear hn cN_5_0 cN_5_1 lN_5 cA_5_0 cA_5_1 lA_5 cC_5_0 cC_5_1 lC_5 N_5 A_5 C_5 N5
      generalize w5.heap.size = z5 at *
      have cN_6_0 : w6.cell? ⟨w.heap.size, 0, none⟩ = some (.int .i64 n0) := N_6.out.cell 0
      have cN_6_1 : w6.cell? ⟨w.heap.size, 1, none⟩ = some (.int .i64 n1) := N_6.out.cell 1
      have lN_6 : w.heap.size < w6.heap.size := N_6.out.lt
      have cA_6_0 : w6.cell? ⟨w.heap.size + 1, 0, none⟩ = some (.int .i64 a) := A_6.out.cell 0
      have cA_6_1 : w6.cell? ⟨w.heap.size + 1, 1, none⟩ = some (.int .i64 b) := A_6.out.cell 1
      have lA_6 : w.heap.size + 1 < w6.heap.size := A_6.out.lt
      have cC_6_0 : w6.cell? ⟨w.heap.size + 1 + 1, 0, none⟩ = some (.int .i64 c) := C_6.out.cell 0
      have cC_6_1 : w6.cell? ⟨w.heap.size + 1 + 1, 1, none⟩ = some (.int .i64 d) := C_6.out.cell 1
      have lC_6 : w.heap.size + 1 + 1 < w6.heap.size := C_6.out.lt
      have cS_6_0 : w6.cell? ⟨z5, 0, none⟩ = some (.int .i64 x) := S_6.out.cell 0
      have cS_6_1 : w6.cell? ⟨z5, 1, none⟩ = some (.int .i64 y) := S_6.out.cell 1
      have lS_6 : z5 < w6.heap.size := S_6.out.lt
      clear BA
      rcases her with rfl | rfl
      · cases p
        · go_wp2_with fail
          go_ret
          exact ⟨rfl, N6.out⟩
        · cases q
          · go_wp2_with fail
            go_ret
            exact ⟨rfl, N6.out⟩
          · obtain ⟨i1, i2, hy, hh⟩ := SK2.out rfl rfl rfl
            have HL := Lib.hid (fun W => HS.out x y i1 i2 hy W)
            rw [hh] at HL
            clear i1 i2 hy hh SK2 HS
            go_wp2_with fail
            refine (HL.out _).mono ?_
            rintro e w7 ⟨rfl, rfl⟩
            go_wp2_with fail
            go_ret
            exact ⟨rfl, N6.out⟩
      · go_wp2_with fail
        go_ret
        exact ⟨rfl, N6.out⟩
theorem numbers_any (n0 n1 a b c d : Int) (ha : In64 a) (hb : In64 b) (hc : In64 c) (hd : In64 d) (w : World) :
    Calls Try.prog 7 #[.agg #[.int .i64 n0, .int .i64 n1], .agg #[.int .i64 a, .int .i64 b], .agg #[.int .i64 c, .int .i64 d]] w fun e w' => e = .returned (.bool true) ∧ New w w' := by
  cases h1 : rightR a b
  · exact numbers_fa n0 n1 a b c d ha hb hc hd h1 w
  · cases h2 : rightR c d
    · exact numbers_fc n0 n1 a b c d ha hb hc hd h1 h2 w
    · exact numbers_both n0 n1 a b c d ha hb hc hd h1 h2 w
end Go.Proofs.Ytapfihlgemejiaa
