/- rat: New, Right, both. -/
import Derived.Test.YtapfihlgemejiaaN10
namespace Go.Proofs.Ytapfihlgemejiaa
open Go.RowKit

theorem In64.abs {n : Int} (h : In64 n) : n.natAbs ≤ 9223372036854775808 := by unfold In64 at h; omega
theorem isW_of {n : Int} (h : In64 n) : IsW 0 n.natAbs (decide (n < 0)) n := by
  have := h.abs
  exact ⟨by omega, by omega, by unfold two; omega, rfl⟩
set_option maxHeartbeats 1000000 in
theorem rnew_any (p q : Int) (hp : In64 p) (hq : In64 q) (h0 : 0 < q) (w : World) : Calls Try.prog 107 #[.int .i64 p, .int .i64 q] w (MadeRes p q w) := by
  have OP := Lib.hid (fun W => wof_any p hp W)
  have OQ := Lib.hid (fun W => wof_any q hq W)
  have h2 : two 0 q.natAbs ≤ 170141183460469231731687303715884105728 := by have := hq.abs; unfold two; omega
  have MA := Lib.hid (fun W => rmade_any 0 p.natAbs 0 q.natAbs _ _ p q (isW_of hp) (isW_of hq) h0 h2 W)
  have hq0 : (q == 0) = false := by simp; omega
  generalize p.natAbs = P at OP MA
  generalize q.natAbs = Q at OQ MA
  generalize decide (p < 0) = sp at *
  generalize decide (q < 0) = sq at *
  clear h2 hp hq h0
  go_enter Try.func107, Try.ntmps107
  go_wp2_with fail
  refine (OP.out _).mono ?_
  rintro e w1 ⟨rfl, hn⟩
  have R1 := Lib.hid (hn.row ((Row.new_at w 75 [.int .i64 0, .int .i64 0] (g := w.heap.size) (by simp))))
  have N1 := Lib.hid ((((New.refl w).alloc (.cells #[.int .i64 0, .int .i64 0] 75))).trans hn)
  clear hn
  have cR1_0 : w1.cell? ⟨w.heap.size, 0, none⟩ = some (.int .i64 0) := R1.out.cell 0
  have cR1_1 : w1.cell? ⟨w.heap.size, 1, none⟩ = some (.int .i64 0) := R1.out.cell 1
  have lR1 : w.heap.size < w1.heap.size := R1.out.lt
  go_wp2_with fail
  refine (OQ.out _).mono ?_
  rintro e w2 ⟨rfl, hn⟩
  have R2 := Lib.hid (hn.row (R1.out))
  have N2 := Lib.hid ((N1.out).trans hn)
  clear hn cR1_0 cR1_1 lR1 R1 N1
  have cR2_0 : w2.cell? ⟨w.heap.size, 0, none⟩ = some (.int .i64 0) := R2.out.cell 0
  have cR2_1 : w2.cell? ⟨w.heap.size, 1, none⟩ = some (.int .i64 0) := R2.out.cell 1
  have lR2 : w.heap.size < w2.heap.size := R2.out.lt
  go_wp2_with fail
  refine (MA.out _).mono ?_
  rintro e w3 ⟨hn, hr⟩
  have R3 := Lib.hid (hn.row (R2.out))
  have N3 := Lib.hid ((N2.out).trans hn)
  clear hn cR2_0 cR2_1 lR2 R2 N2
  have cR3_0 : w3.cell? ⟨w.heap.size, 0, none⟩ = some (.int .i64 0) := R3.out.cell 0
  have cR3_1 : w3.cell? ⟨w.heap.size, 1, none⟩ = some (.int .i64 0) := R3.out.cell 1
  have lR3 : w.heap.size < w3.heap.size := R3.out.lt
  have fR3_0 : w3.frozen? ⟨w.heap.size, 0, none⟩ = false := R3.out.free 0
  have fR3_1 : w3.frozen? ⟨w.heap.size, 1, none⟩ = false := R3.out.free 1
  have hex : ∃ x y er : Int, e = .returned (.tuple #[.agg #[.int .i64 x, .int .i64 y], .int .i64 er]) := by
    rcases hr with ⟨_, _, h⟩ | ⟨_, h⟩
    · exact ⟨_, _, _, h⟩
    · exact ⟨_, _, _, h⟩
  obtain ⟨x, y, er, rfl⟩ := hex
  have HR := Lib.hid hr
  have R9 := Lib.hid ((R3.out.set 0 (.int .i64 x)).set 1 (.int .i64 y))
  have N9 := Lib.hid (new_set (new_set N3.out w.heap.size (Nat.le_refl _) 0 (.int .i64 x)) w.heap.size (Nat.le_refl _) 1 (.int .i64 y))
  clear OP OQ MA hr R3 N3
  go_wp2_with fail
  generalize (w3.setCell ⟨w.heap.size, 0, none⟩ (.int .i64 x)).setCell ⟨w.heap.size, 1, none⟩ (.int .i64 y) = w9 at *
  have r0 : w9.cell? ⟨w.heap.size, 0, none⟩ = some (.int .i64 x) := R9.out.cell 0
  have r1 : w9.cell? ⟨w.heap.size, 1, none⟩ = some (.int .i64 y) := R9.out.cell 1
  exact bodyPost_ret (v := .tuple #[.agg #[.int .i64 x, .int .i64 y], .int .i64 er]) (by simp [results, Try.results107, go_sem, r0, r1]) rfl ⟨N9.out, HR.out⟩
def rightR (p q : Int) : Bool := decide (1 ≤ q ∧ Nat.gcd p.natAbs q.natAbs = 1)
theorem quo_one (n : Int) : quo n 1 = n := by unfold quo; split <;> omega
theorem quo_less {n : Int} {g : Nat} (hn : 0 < n) (hg : 1 < g) : quo n g ≠ n := by
  unfold quo
  rw [if_neg (by omega)]
  have h1 : n.natAbs / g < n.natAbs := Nat.div_lt_self (by omega) hg
  omega
set_option maxHeartbeats 400000 in
theorem right_lt (p q : Int) (h : q < 1) (w : World) : Calls Try.prog 42 #[.agg #[.int .i64 p, .int .i64 q]] w fun e w' => e = .returned (.bool false) ∧ New w w' := by
  go_enter Try.func42, Try.ntmps42
  go_wp2_with fail
  go_ret
  exact ⟨rfl, (New.refl w).alloc _⟩
set_option maxHeartbeats 400000 in
theorem right_one (p q : Int) (h : 1 ≤ q) (w : World) (hc : Calls Try.prog 107 #[.int .i64 p, .int .i64 q] (w.alloc (.cells #[.int .i64 p, .int .i64 q] 75)) fun e w2 => e = .returned (.tuple #[.agg #[.int .i64 p, .int .i64 q], .int .i64 0]) ∧ New (w.alloc (.cells #[.int .i64 p, .int .i64 q] 75)) w2) : Calls Try.prog 42 #[.agg #[.int .i64 p, .int .i64 q]] w fun e w' => e = .returned (.bool true) ∧ New w w' := by
  have HC := Lib.hid hc
  clear hc
  go_enter Try.func42, Try.ntmps42
  go_wp2_with fail
  refine HC.out.mono ?_
  rintro e w1 ⟨rfl, hn⟩
  have A1 := Lib.hid (hn.row ((Row.new_at w 75 [.int .i64 p, .int .i64 q] (g := w.heap.size) (by simp))))
  have N1 := Lib.hid ((((New.refl w).alloc (.cells #[.int .i64 p, .int .i64 q] 75))).trans hn)
  clear hn
  have cA1_0 : w1.cell? ⟨w.heap.size, 0, none⟩ = some (.int .i64 p) := A1.out.cell 0
  have cA1_1 : w1.cell? ⟨w.heap.size, 1, none⟩ = some (.int .i64 q) := A1.out.cell 1
  have lA1 : w.heap.size < w1.heap.size := A1.out.lt
  clear HC
  go_wp2_with fail
  go_ret
  exact ⟨by simp, N1.out.alloc _⟩
set_option maxHeartbeats 400000 in
theorem right_no (p q : Int) (h : 1 ≤ q) (w : World) (x y : Int) (hy : y ≠ q) (hc : Calls Try.prog 107 #[.int .i64 p, .int .i64 q] (w.alloc (.cells #[.int .i64 p, .int .i64 q] 75)) fun e w2 => e = .returned (.tuple #[.agg #[.int .i64 x, .int .i64 y], .int .i64 0]) ∧ New (w.alloc (.cells #[.int .i64 p, .int .i64 q] 75)) w2) : Calls Try.prog 42 #[.agg #[.int .i64 p, .int .i64 q]] w fun e w' => e = .returned (.bool false) ∧ New w w' := by
  have HC := Lib.hid hc
  clear hc
  have hy2 : (y == q) = false := by simpa using hy
  go_enter Try.func42, Try.ntmps42
  go_wp2_with fail
  refine HC.out.mono ?_
  rintro e w1 ⟨rfl, hn⟩
  have A1 := Lib.hid (hn.row ((Row.new_at w 75 [.int .i64 p, .int .i64 q] (g := w.heap.size) (by simp))))
  have N1 := Lib.hid ((((New.refl w).alloc (.cells #[.int .i64 p, .int .i64 q] 75))).trans hn)
  clear hn
  have cA1_0 : w1.cell? ⟨w.heap.size, 0, none⟩ = some (.int .i64 p) := A1.out.cell 0
  have cA1_1 : w1.cell? ⟨w.heap.size, 1, none⟩ = some (.int .i64 q) := A1.out.cell 1
  have lA1 : w.heap.size < w1.heap.size := A1.out.lt
  clear HC
  go_wp2_with fail
  go_ret
  exact ⟨by simp, N1.out.alloc _⟩
set_option maxHeartbeats 400000 in
theorem right_over (p q : Int) (h : 1 ≤ q) (w : World) (hc : Calls Try.prog 107 #[.int .i64 p, .int .i64 q] (w.alloc (.cells #[.int .i64 p, .int .i64 q] 75)) fun e w2 => e = .returned (.tuple #[.agg #[.int .i64 0, .int .i64 0], .int .i64 20]) ∧ New (w.alloc (.cells #[.int .i64 p, .int .i64 q] 75)) w2) : Calls Try.prog 42 #[.agg #[.int .i64 p, .int .i64 q]] w fun e w' => e = .returned (.bool false) ∧ New w w' := by
  have HC := Lib.hid hc
  clear hc
  go_enter Try.func42, Try.ntmps42
  go_wp2_with fail
  refine HC.out.mono ?_
  rintro e w1 ⟨rfl, hn⟩
  have A1 := Lib.hid (hn.row ((Row.new_at w 75 [.int .i64 p, .int .i64 q] (g := w.heap.size) (by simp))))
  have N1 := Lib.hid ((((New.refl w).alloc (.cells #[.int .i64 p, .int .i64 q] 75))).trans hn)
  clear hn
  have cA1_0 : w1.cell? ⟨w.heap.size, 0, none⟩ = some (.int .i64 p) := A1.out.cell 0
  have cA1_1 : w1.cell? ⟨w.heap.size, 1, none⟩ = some (.int .i64 q) := A1.out.cell 1
  have lA1 : w.heap.size < w1.heap.size := A1.out.lt
  clear HC
  go_wp2_with fail
  go_ret
  exact ⟨by simp, N1.out.alloc _⟩
theorem right_any2 (p q : Int) (hp : In64 p) (hq : In64 q) (w : World) : Calls Try.prog 42 #[.agg #[.int .i64 p, .int .i64 q]] w fun e w' => e = .returned (.bool (rightR p q)) ∧ New w w' := by
  by_cases h : q < 1
  · rw [show rightR p q = false from decide_eq_false (by omega)]; exact right_lt p q h w
  · have ne := rnew_any p q hp hq (by omega) (w.alloc (.cells #[.int .i64 p, .int .i64 q] 75))
    by_cases hg : Nat.gcd p.natAbs q.natAbs = 1
    · rw [show rightR p q = true from decide_eq_true ⟨by omega, hg⟩]
      refine right_one p q (by omega) w (ne.mono ?_)
      rintro e w2 ⟨hn, hr⟩
      rw [hg, quo_one, quo_one] at hr
      rcases hr with ⟨_, _, he⟩ | ⟨hno, _⟩
      · exact ⟨he, hn⟩
      · exact absurd ⟨hp, hq⟩ hno
    · rw [show rightR p q = false from decide_eq_false (fun hh => hg hh.2)]
      have hgp : 0 < Nat.gcd p.natAbs q.natAbs := Nat.gcd_pos_of_pos_right _ (by omega)
      have hlt : quo q (Nat.gcd p.natAbs q.natAbs) ≠ q := quo_less (by omega) (by omega)
      by_cases hi : In64 (quo p (Nat.gcd p.natAbs q.natAbs)) ∧ In64 (quo q (Nat.gcd p.natAbs q.natAbs))
      · refine right_no p q (by omega) w (quo p (Nat.gcd p.natAbs q.natAbs)) (quo q (Nat.gcd p.natAbs q.natAbs)) hlt (ne.mono ?_)
        rintro e w2 ⟨hn, ⟨_, _, he⟩ | ⟨hno, _⟩⟩
        · exact ⟨he, hn⟩
        · exact absurd hi hno
      · refine right_over p q (by omega) w (ne.mono ?_)
        rintro e w2 ⟨hn, ⟨h1, h2, _⟩ | ⟨_, he⟩⟩
        · exact absurd ⟨h1, h2⟩ hi
        · exact ⟨he, hn⟩
set_option maxHeartbeats 400000 in
theorem both_any (a b c d : Int) (ha : In64 a) (hb : In64 b) (hc : In64 c) (hd : In64 d) (w : World) :
    Calls Try.prog 108 #[.agg #[.int .i64 a, .int .i64 b], .agg #[.int .i64 c, .int .i64 d]] w fun e w' => e = .returned (.bool (rightR a b && rightR c d)) ∧ New w w' := by
  have R1 := Lib.hid (fun W => right_any2 a b ha hb W)
  have R2 := Lib.hid (fun W => right_any2 c d hc hd W)
  clear ha hb hc hd
  generalize rightR a b = x at *
  generalize rightR c d = y at *
  cases x
  · go_enter Try.func108, Try.ntmps108
    go_wp2_with fail
    refine (R1.out _).mono ?_
    rintro e w1 ⟨rfl, hn⟩
    go_wp2_with fail
    go_ret
    exact ⟨by simp, (((New.refl w).alloc _).alloc _).trans hn⟩
  · go_enter Try.func108, Try.ntmps108
    go_wp2_with fail
    refine (R1.out _).mono ?_
    rintro e w1 ⟨rfl, hn⟩
    have A1 := Lib.hid (hn.row (((Row.new_at w 75 [.int .i64 a, .int .i64 b] (g := w.heap.size) (by simp)).alloc (.cells #[.int .i64 c, .int .i64 d] 75))))
    have B1 := Lib.hid (hn.row ((Row.new_at (w.alloc (.cells #[.int .i64 a, .int .i64 b] 75)) 75 [.int .i64 c, .int .i64 d] (g := w.heap.size + 1) (by simp))))
    have N1 := Lib.hid (((((New.refl w).alloc (.cells #[.int .i64 a, .int .i64 b] 75)).alloc (.cells #[.int .i64 c, .int .i64 d] 75))).trans hn)
    clear hn
    have cA1_0 : w1.cell? ⟨w.heap.size, 0, none⟩ = some (.int .i64 a) := A1.out.cell 0
    have cA1_1 : w1.cell? ⟨w.heap.size, 1, none⟩ = some (.int .i64 b) := A1.out.cell 1
    have lA1 : w.heap.size < w1.heap.size := A1.out.lt
    have cB1_0 : w1.cell? ⟨w.heap.size + 1, 0, none⟩ = some (.int .i64 c) := B1.out.cell 0
    have cB1_1 : w1.cell? ⟨w.heap.size + 1, 1, none⟩ = some (.int .i64 d) := B1.out.cell 1
    have lB1 : w.heap.size + 1 < w1.heap.size := B1.out.lt
    go_wp2_with fail
    refine (R2.out _).mono ?_
    rintro e w2 ⟨rfl, hn⟩
    go_wp2_with fail
    go_ret
    exact ⟨by simp, N1.out.trans hn⟩
end Go.Proofs.Ytapfihlgemejiaa
