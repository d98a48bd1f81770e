/- rat.wide: of, times, opposite, number. -/
import Derived.Test.YtapfihlgemejiaaN4
namespace Go.Proofs.Ytapfihlgemejiaa
open Go.RowKit

/-- Two words and a sign are a whole number. -/
def IsW (h l : Nat) (s : Bool) (n : Int) : Prop := h < 18446744073709551616 ∧ l < 18446744073709551616 ∧ two h l = n.natAbs ∧ s = decide (n < 0)
def In64 (n : Int) : Prop := -9223372036854775808 ≤ n ∧ n ≤ 9223372036854775807
set_option maxHeartbeats 400000 in
theorem wof_any (n : Int) (hn : In64 n) (w : World) :
    Calls Try.prog 159 #[.int .i64 n] w fun e w' => e = .returned (.agg #[.int .u64 0, .int .u64 (n.natAbs : Int), .bool (decide (n < 0))]) ∧ New w w' := by
  obtain ⟨g1, g2⟩ := hn
  by_cases h : n < 0
  · have e : IntKind.u64.wrap (-IntKind.u64.wrap n) = (n.natAbs : Int) := by rw [IntKind.wrap_u64, IntKind.wrap_u64]; omega
    have hd : decide (n < 0) = true := decide_eq_true h
    rw [hd, ← e]
    clear e hd
    go_enter Try.func159, Try.ntmps159
    go_wp2
    simp [bodyPost, results, Try.results159, go_sem]
    exact (New.refl w).alloc _
  · have e : IntKind.u64.wrap n = (n.natAbs : Int) := by rw [IntKind.wrap_u64]; omega
    have hd : decide (n < 0) = false := decide_eq_false h
    rw [hd, ← e]
    clear e hd
    go_enter Try.func159, Try.ntmps159
    go_wp2
    simp [bodyPost, results, Try.results159, go_sem]
    exact ⟨by rw [IntKind.wrap_u64]; omega, (New.refl w).alloc _⟩
def WRes (n : Int) (w : World) (e : Ending) (w' : World) : Prop :=
  ∃ h l s, IsW h l s n ∧ e = .returned (.agg #[.int .u64 (h : Int), .int .u64 (l : Int), .bool s]) ∧ New w w'
theorem mul64_ex (x y : Nat) (hx : x < 18446744073709551616) (hy : y < 18446744073709551616) (w : World) :
    Calls Try.prog 160 #[.int .u64 x, .int .u64 y] w fun e w' => ∃ h l : Nat, h < 18446744073709551616 ∧ l < 18446744073709551616 ∧ two h l = x * y ∧ e = .returned (.tuple #[.int .u64 (h : Int), .int .u64 (l : Int)]) ∧ w = w' :=
  (mul64_any x y hx hy w).mono fun _ _ ⟨he, hw⟩ => ⟨_, _, by
    have h1 : x * y ≤ 18446744073709551615 * 18446744073709551615 := Nat.mul_le_mul (by omega) (by omega)
    omega, by omega, two_parts _, he, hw⟩
theorem isZero_b (h l : Nat) (z : Bool) (hz : z = zeroB (two h l)) (w : World) : Calls Try.prog 112 #[.agg #[.int .u64 h, .int .u64 l]] w fun e w' => e = .returned (.bool z) ∧ New w w' := by
  subst hz; exact isZero_any h l w
def wideRow2 (h l : Nat) (s : Bool) : List Value := [.int .u64 (h : Int), .int .u64 (l : Int), .bool s]
theorem mul_sign (a b : Int) {h l : Nat} (hh : h < 18446744073709551616) (hl : l < 18446744073709551616) (ht : two h l = a.natAbs * b.natAbs) :
    IsW h l ((decide (a < 0) != decide (b < 0)) && !zeroB (two h l)) (a * b) := by
  refine ⟨hh, hl, by rw [ht, Int.natAbs_mul], ?_⟩
  unfold zeroB
  rw [ht, Bool.eq_iff_iff]
  simp only [Bool.and_eq_true, bne_iff_ne, ne_eq, Bool.not_eq_true', decide_eq_false_iff_not, decide_eq_true_eq, decide_eq_decide]
  rcases Int.lt_trichotomy a 0 with ha | ha | ha <;> rcases Int.lt_trichotomy b 0 with hb | hb | hb
  · have := Int.mul_pos_of_neg_of_neg ha hb; simp [ha, hb]; omega
  · subst hb; simp
  · have h1 := Int.mul_neg_of_neg_of_pos ha hb
    have h2 : ¬ b < 0 := by omega
    have h3 : a.natAbs * b.natAbs ≠ 0 := by rw [← Int.natAbs_mul]; omega
    simp [ha, h2, h1]; omega
  · subst ha; simp
  · subst ha; simp
  · subst ha; simp
  · have h1 := Int.mul_neg_of_pos_of_neg ha hb
    have h2 : ¬ a < 0 := by omega
    have h3 : a.natAbs * b.natAbs ≠ 0 := by rw [← Int.natAbs_mul]; omega
    simp [hb, h2, h1]; omega
  · subst hb; simp
  · have h1 := Int.mul_pos ha hb
    have h2 : ¬ a < 0 := by omega
    have h3 : ¬ b < 0 := by omega
    have h4 : ¬ a * b < 0 := by omega
    simp [h2, h3, h4]
set_option maxHeartbeats 1000000 in
theorem times_any (a b : Int) (ha : In64 a) (hb : In64 b) (w : World) : Calls Try.prog 109 #[.int .i64 a, .int .i64 b] w (WRes (a * b) w) := by
  have h1 : a.natAbs < 18446744073709551616 := by unfold In64 at ha; omega
  have h2 : b.natAbs < 18446744073709551616 := by unfold In64 at hb; omega
  have oa := fun W => wof_any a ha W
  have ob := fun W => wof_any b hb W
  have mu := fun W => mul64_ex a.natAbs b.natAbs h1 h2 W
  have ms := fun h l hh hl ht => mul_sign a b (h := h) (l := l) hh hl ht
  generalize a.natAbs = A at *
  generalize b.natAbs = B at *
  generalize decide (a < 0) = sa at *
  generalize decide (b < 0) = sb at *
  have OA := Lib.hid oa
  have OB := Lib.hid ob
  have MU := Lib.hid mu
  have MS := Lib.hid ms
  clear oa ob mu ms ha hb
  go_enter Try.func109, Try.ntmps109
  go_wp2_with fail
  refine (OA.out _).mono ?_
  rintro e w2 ⟨rfl, hn2⟩
  go_wp2_with fail
  refine (OB.out _).mono ?_
  rintro e w3 ⟨rfl, hn3⟩
  have R3 := Lib.hid ((hn2.trans hn3).row (Row.new_at w 161 (wideRow2 0 0 false) rfl))
  have N3 := Lib.hid (((New.refl w).alloc _).trans (hn2.trans hn3))
  have l3 := R3.out.lt
  clear hn2 hn3
  go_wp2_with fail
  refine (MU.out _).mono ?_
  rintro e w4 ⟨h, l, hh, hl, ht, rfl, rfl⟩
  have HI := Lib.hid (MS.out h l hh hl ht)
  clear hh hl ht h1 h2 OA OB MU MS
  have iz := fun W => isZero_any h l W
  generalize zeroB (two h l) = zz at *
  have IZ := Lib.hid iz
  clear iz
  cases sa <;> cases sb
  · go_upto_region 4 with (fail)
    have P5 : Row (((w3.alloc (Obj.cells #[Value.int IntKind.u64 0, Value.int IntKind.u64 ↑A, Value.bool false] 161)).alloc (Obj.cells #[Value.int IntKind.u64 0, Value.int IntKind.u64 ↑B, Value.bool false] 161)).alloc (Obj.cells #[Value.int IntKind.u64 ↑h, Value.int IntKind.u64 ↑l, Value.bool false] 161)) (w3.heap.size + 1 + 1) 161 (wideRow2 h l false) := Row.new_at _ 161 (wideRow2 h l false) (by simp)
    have R5 : Row (((w3.alloc (Obj.cells #[Value.int IntKind.u64 0, Value.int IntKind.u64 ↑A, Value.bool false] 161)).alloc (Obj.cells #[Value.int IntKind.u64 0, Value.int IntKind.u64 ↑B, Value.bool false] 161)).alloc (Obj.cells #[Value.int IntKind.u64 ↑h, Value.int IntKind.u64 ↑l, Value.bool false] 161)) w.heap.size 161 (wideRow2 0 0 false) := ((R3.out.alloc _).alloc _).alloc _
    have N5 : New w (((w3.alloc (Obj.cells #[Value.int IntKind.u64 0, Value.int IntKind.u64 ↑A, Value.bool false] 161)).alloc (Obj.cells #[Value.int IntKind.u64 0, Value.int IntKind.u64 ↑B, Value.bool false] 161)).alloc (Obj.cells #[Value.int IntKind.u64 ↑h, Value.int IntKind.u64 ↑l, Value.bool false] 161)) := ((N3.out.alloc _).alloc _).alloc _
    have HI5 : IsW h l (false) (a * b) := by have := HI.out; simpa using this
    have RR5 := Lib.hid R5
    have NN5 := Lib.hid N5
    have HJ := Lib.hid HI5
    have PP5 := Lib.hid P5
    have l5 := P5.lt
    clear R3 N3 R5 N5 HI HI5 P5
    generalize (((w3.alloc (Obj.cells #[Value.int IntKind.u64 0, Value.int IntKind.u64 ↑A, Value.bool false] 161)).alloc (Obj.cells #[Value.int IntKind.u64 0, Value.int IntKind.u64 ↑B, Value.bool false] 161)).alloc (Obj.cells #[Value.int IntKind.u64 ↑h, Value.int IntKind.u64 ↑l, Value.bool false] 161)) = w5 at *
    generalize w3.heap.size = z at *
    have p0 : w5.cell? ⟨z + 1 + 1, 0, none⟩ = some (.int .u64 (h : Int)) := PP5.out.cell 0
    have p1 : w5.cell? ⟨z + 1 + 1, 1, none⟩ = some (.int .u64 (l : Int)) := PP5.out.cell 1
    have p2 : w5.cell? ⟨z + 1 + 1, 2, none⟩ = some (.bool false) := PP5.out.cell 2
    have pf := PP5.out.free 2
    have P6 := Lib.hid PP5.out
    have R6 := Lib.hid RR5.out
    have N6 := Lib.hid NN5.out
    clear PP5 RR5 NN5 IZ
    go_upto_region 5 with (fail)
    have P7 := Lib.hid (P6.out.set 2 (.bool (false)))
    have R7 := Lib.hid (R6.out.far (p := ⟨z + 1 + 1, 2, none⟩) (show w.heap.size ≠ z + 1 + 1 by omega) (.bool (false)))
    have N7 := Lib.hid (new_set N6.out (z + 1 + 1) (by omega) 2 (.bool (false)))
    clear P6 R6 N6 p0 p1 p2 pf l5
    generalize w5.setCell ⟨z + 1 + 1, 2, none⟩ (.bool (false)) = w7 at *
    have l5 := P7.out.lt
    have p0 : w7.cell? ⟨z + 1 + 1, 0, none⟩ = some (.int .u64 (h : Int)) := P7.out.cell 0
    have p1 : w7.cell? ⟨z + 1 + 1, 1, none⟩ = some (.int .u64 (l : Int)) := P7.out.cell 1
    have p2 : w7.cell? ⟨z + 1 + 1, 2, none⟩ = some (.bool (false)) := P7.out.cell 2
    have r0 : w7.cell? ⟨w.heap.size, 0, none⟩ = some (.int .u64 0) := R7.out.cell 0
    have r1 : w7.cell? ⟨w.heap.size, 1, none⟩ = some (.int .u64 0) := R7.out.cell 1
    have r2 : w7.cell? ⟨w.heap.size, 2, none⟩ = some (.bool false) := R7.out.cell 2
    have rf0 := R7.out.free 0
    have rf1 := R7.out.free 1
    have rf2 := R7.out.free 2
    have R8 := Lib.hid (((R7.out.set 0 (.int .u64 (h : Int))).set 1 (.int .u64 (l : Int))).set 2 (.bool (false)))
    have N8 := Lib.hid (new_set3 N7.out w.heap.size (by omega) 0 1 2 (.int .u64 (h : Int)) (.int .u64 (l : Int)) (.bool (false)))
    clear P7 R7 N7
    go_wp2_with fail
    generalize ((w7.setCell ⟨w.heap.size, 0, none⟩ (.int .u64 (h : Int))).setCell ⟨w.heap.size, 1, none⟩ (.int .u64 (l : Int))).setCell ⟨w.heap.size, 2, none⟩ (.bool (false)) = w8 at *
    have r0 : w8.cell? ⟨w.heap.size, 0, none⟩ = some (.int .u64 (h : Int)) := R8.out.cell 0
    have r1 : w8.cell? ⟨w.heap.size, 1, none⟩ = some (.int .u64 (l : Int)) := R8.out.cell 1
    have r2 : w8.cell? ⟨w.heap.size, 2, none⟩ = some (.bool (false)) := R8.out.cell 2
    exact bodyPost_ret (v := .agg #[.int .u64 (h : Int), .int .u64 (l : Int), .bool (false)]) (by simp [results, Try.results109, go_sem, r0, r1, r2]) rfl ⟨h, l, _, HJ.out, rfl, N8.out⟩
  · go_upto_region 4 with (fail)
    have P5 : Row (((w3.alloc (Obj.cells #[Value.int IntKind.u64 0, Value.int IntKind.u64 ↑A, Value.bool false] 161)).alloc (Obj.cells #[Value.int IntKind.u64 0, Value.int IntKind.u64 ↑B, Value.bool true] 161)).alloc (Obj.cells #[Value.int IntKind.u64 ↑h, Value.int IntKind.u64 ↑l, Value.bool true] 161)) (w3.heap.size + 1 + 1) 161 (wideRow2 h l true) := Row.new_at _ 161 (wideRow2 h l true) (by simp)
    have R5 : Row (((w3.alloc (Obj.cells #[Value.int IntKind.u64 0, Value.int IntKind.u64 ↑A, Value.bool false] 161)).alloc (Obj.cells #[Value.int IntKind.u64 0, Value.int IntKind.u64 ↑B, Value.bool true] 161)).alloc (Obj.cells #[Value.int IntKind.u64 ↑h, Value.int IntKind.u64 ↑l, Value.bool true] 161)) w.heap.size 161 (wideRow2 0 0 false) := ((R3.out.alloc _).alloc _).alloc _
    have N5 : New w (((w3.alloc (Obj.cells #[Value.int IntKind.u64 0, Value.int IntKind.u64 ↑A, Value.bool false] 161)).alloc (Obj.cells #[Value.int IntKind.u64 0, Value.int IntKind.u64 ↑B, Value.bool true] 161)).alloc (Obj.cells #[Value.int IntKind.u64 ↑h, Value.int IntKind.u64 ↑l, Value.bool true] 161)) := ((N3.out.alloc _).alloc _).alloc _
    have HI5 : IsW h l (!zz) (a * b) := by have := HI.out; simpa using this
    have RR5 := Lib.hid R5
    have NN5 := Lib.hid N5
    have HJ := Lib.hid HI5
    have PP5 := Lib.hid P5
    have l5 := P5.lt
    clear R3 N3 R5 N5 HI HI5 P5
    generalize (((w3.alloc (Obj.cells #[Value.int IntKind.u64 0, Value.int IntKind.u64 ↑A, Value.bool false] 161)).alloc (Obj.cells #[Value.int IntKind.u64 0, Value.int IntKind.u64 ↑B, Value.bool true] 161)).alloc (Obj.cells #[Value.int IntKind.u64 ↑h, Value.int IntKind.u64 ↑l, Value.bool true] 161)) = w5 at *
    generalize w3.heap.size = z at *
    have p0 : w5.cell? ⟨z + 1 + 1, 0, none⟩ = some (.int .u64 (h : Int)) := PP5.out.cell 0
    have p1 : w5.cell? ⟨z + 1 + 1, 1, none⟩ = some (.int .u64 (l : Int)) := PP5.out.cell 1
    have p2 : w5.cell? ⟨z + 1 + 1, 2, none⟩ = some (.bool true) := PP5.out.cell 2
    have pf := PP5.out.free 2
    go_wp2_with fail
    refine (IZ.out _).mono ?_
    rintro e w6 ⟨rfl, hn6⟩
    have P6 := Lib.hid (hn6.row PP5.out)
    have R6 := Lib.hid (hn6.row RR5.out)
    have N6 := Lib.hid (NN5.out.trans hn6)
    clear p0 p1 p2 pf l5 PP5 RR5 NN5 hn6 IZ
    have l5 := P6.out.lt
    have p0 : w6.cell? ⟨z + 1 + 1, 0, none⟩ = some (.int .u64 (h : Int)) := P6.out.cell 0
    have p1 : w6.cell? ⟨z + 1 + 1, 1, none⟩ = some (.int .u64 (l : Int)) := P6.out.cell 1
    have p2 : w6.cell? ⟨z + 1 + 1, 2, none⟩ = some (.bool true) := P6.out.cell 2
    have pf := P6.out.free 2
    go_upto_region 5 with (fail)
    have P7 := Lib.hid (P6.out.set 2 (.bool (!zz)))
    have R7 := Lib.hid (R6.out.far (p := ⟨z + 1 + 1, 2, none⟩) (show w.heap.size ≠ z + 1 + 1 by omega) (.bool (!zz)))
    have N7 := Lib.hid (new_set N6.out (z + 1 + 1) (by omega) 2 (.bool (!zz)))
    clear P6 R6 N6 p0 p1 p2 pf l5
    generalize w6.setCell ⟨z + 1 + 1, 2, none⟩ (.bool (!zz)) = w7 at *
    have l5 := P7.out.lt
    have p0 : w7.cell? ⟨z + 1 + 1, 0, none⟩ = some (.int .u64 (h : Int)) := P7.out.cell 0
    have p1 : w7.cell? ⟨z + 1 + 1, 1, none⟩ = some (.int .u64 (l : Int)) := P7.out.cell 1
    have p2 : w7.cell? ⟨z + 1 + 1, 2, none⟩ = some (.bool (!zz)) := P7.out.cell 2
    have r0 : w7.cell? ⟨w.heap.size, 0, none⟩ = some (.int .u64 0) := R7.out.cell 0
    have r1 : w7.cell? ⟨w.heap.size, 1, none⟩ = some (.int .u64 0) := R7.out.cell 1
    have r2 : w7.cell? ⟨w.heap.size, 2, none⟩ = some (.bool false) := R7.out.cell 2
    have rf0 := R7.out.free 0
    have rf1 := R7.out.free 1
    have rf2 := R7.out.free 2
    have R8 := Lib.hid (((R7.out.set 0 (.int .u64 (h : Int))).set 1 (.int .u64 (l : Int))).set 2 (.bool (!zz)))
    have N8 := Lib.hid (new_set3 N7.out w.heap.size (by omega) 0 1 2 (.int .u64 (h : Int)) (.int .u64 (l : Int)) (.bool (!zz)))
    clear P7 R7 N7
    go_wp2_with fail
    generalize ((w7.setCell ⟨w.heap.size, 0, none⟩ (.int .u64 (h : Int))).setCell ⟨w.heap.size, 1, none⟩ (.int .u64 (l : Int))).setCell ⟨w.heap.size, 2, none⟩ (.bool (!zz)) = w8 at *
    have r0 : w8.cell? ⟨w.heap.size, 0, none⟩ = some (.int .u64 (h : Int)) := R8.out.cell 0
    have r1 : w8.cell? ⟨w.heap.size, 1, none⟩ = some (.int .u64 (l : Int)) := R8.out.cell 1
    have r2 : w8.cell? ⟨w.heap.size, 2, none⟩ = some (.bool (!zz)) := R8.out.cell 2
    exact bodyPost_ret (v := .agg #[.int .u64 (h : Int), .int .u64 (l : Int), .bool (!zz)]) (by simp [results, Try.results109, go_sem, r0, r1, r2]) rfl ⟨h, l, _, HJ.out, rfl, N8.out⟩
  · go_upto_region 4 with (fail)
    have P5 : Row (((w3.alloc (Obj.cells #[Value.int IntKind.u64 0, Value.int IntKind.u64 ↑A, Value.bool true] 161)).alloc (Obj.cells #[Value.int IntKind.u64 0, Value.int IntKind.u64 ↑B, Value.bool false] 161)).alloc (Obj.cells #[Value.int IntKind.u64 ↑h, Value.int IntKind.u64 ↑l, Value.bool true] 161)) (w3.heap.size + 1 + 1) 161 (wideRow2 h l true) := Row.new_at _ 161 (wideRow2 h l true) (by simp)
    have R5 : Row (((w3.alloc (Obj.cells #[Value.int IntKind.u64 0, Value.int IntKind.u64 ↑A, Value.bool true] 161)).alloc (Obj.cells #[Value.int IntKind.u64 0, Value.int IntKind.u64 ↑B, Value.bool false] 161)).alloc (Obj.cells #[Value.int IntKind.u64 ↑h, Value.int IntKind.u64 ↑l, Value.bool true] 161)) w.heap.size 161 (wideRow2 0 0 false) := ((R3.out.alloc _).alloc _).alloc _
    have N5 : New w (((w3.alloc (Obj.cells #[Value.int IntKind.u64 0, Value.int IntKind.u64 ↑A, Value.bool true] 161)).alloc (Obj.cells #[Value.int IntKind.u64 0, Value.int IntKind.u64 ↑B, Value.bool false] 161)).alloc (Obj.cells #[Value.int IntKind.u64 ↑h, Value.int IntKind.u64 ↑l, Value.bool true] 161)) := ((N3.out.alloc _).alloc _).alloc _
    have HI5 : IsW h l (!zz) (a * b) := by have := HI.out; simpa using this
    have RR5 := Lib.hid R5
    have NN5 := Lib.hid N5
    have HJ := Lib.hid HI5
    have PP5 := Lib.hid P5
    have l5 := P5.lt
    clear R3 N3 R5 N5 HI HI5 P5
    generalize (((w3.alloc (Obj.cells #[Value.int IntKind.u64 0, Value.int IntKind.u64 ↑A, Value.bool true] 161)).alloc (Obj.cells #[Value.int IntKind.u64 0, Value.int IntKind.u64 ↑B, Value.bool false] 161)).alloc (Obj.cells #[Value.int IntKind.u64 ↑h, Value.int IntKind.u64 ↑l, Value.bool true] 161)) = w5 at *
    generalize w3.heap.size = z at *
    have p0 : w5.cell? ⟨z + 1 + 1, 0, none⟩ = some (.int .u64 (h : Int)) := PP5.out.cell 0
    have p1 : w5.cell? ⟨z + 1 + 1, 1, none⟩ = some (.int .u64 (l : Int)) := PP5.out.cell 1
    have p2 : w5.cell? ⟨z + 1 + 1, 2, none⟩ = some (.bool true) := PP5.out.cell 2
    have pf := PP5.out.free 2
    go_wp2_with fail
    refine (IZ.out _).mono ?_
    rintro e w6 ⟨rfl, hn6⟩
    have P6 := Lib.hid (hn6.row PP5.out)
    have R6 := Lib.hid (hn6.row RR5.out)
    have N6 := Lib.hid (NN5.out.trans hn6)
    clear p0 p1 p2 pf l5 PP5 RR5 NN5 hn6 IZ
    have l5 := P6.out.lt
    have p0 : w6.cell? ⟨z + 1 + 1, 0, none⟩ = some (.int .u64 (h : Int)) := P6.out.cell 0
    have p1 : w6.cell? ⟨z + 1 + 1, 1, none⟩ = some (.int .u64 (l : Int)) := P6.out.cell 1
    have p2 : w6.cell? ⟨z + 1 + 1, 2, none⟩ = some (.bool true) := P6.out.cell 2
    have pf := P6.out.free 2
    go_upto_region 5 with (fail)
    have P7 := Lib.hid (P6.out.set 2 (.bool (!zz)))
    have R7 := Lib.hid (R6.out.far (p := ⟨z + 1 + 1, 2, none⟩) (show w.heap.size ≠ z + 1 + 1 by omega) (.bool (!zz)))
    have N7 := Lib.hid (new_set N6.out (z + 1 + 1) (by omega) 2 (.bool (!zz)))
    clear P6 R6 N6 p0 p1 p2 pf l5
    generalize w6.setCell ⟨z + 1 + 1, 2, none⟩ (.bool (!zz)) = w7 at *
    have l5 := P7.out.lt
    have p0 : w7.cell? ⟨z + 1 + 1, 0, none⟩ = some (.int .u64 (h : Int)) := P7.out.cell 0
    have p1 : w7.cell? ⟨z + 1 + 1, 1, none⟩ = some (.int .u64 (l : Int)) := P7.out.cell 1
    have p2 : w7.cell? ⟨z + 1 + 1, 2, none⟩ = some (.bool (!zz)) := P7.out.cell 2
    have r0 : w7.cell? ⟨w.heap.size, 0, none⟩ = some (.int .u64 0) := R7.out.cell 0
    have r1 : w7.cell? ⟨w.heap.size, 1, none⟩ = some (.int .u64 0) := R7.out.cell 1
    have r2 : w7.cell? ⟨w.heap.size, 2, none⟩ = some (.bool false) := R7.out.cell 2
    have rf0 := R7.out.free 0
    have rf1 := R7.out.free 1
    have rf2 := R7.out.free 2
    have R8 := Lib.hid (((R7.out.set 0 (.int .u64 (h : Int))).set 1 (.int .u64 (l : Int))).set 2 (.bool (!zz)))
    have N8 := Lib.hid (new_set3 N7.out w.heap.size (by omega) 0 1 2 (.int .u64 (h : Int)) (.int .u64 (l : Int)) (.bool (!zz)))
    clear P7 R7 N7
    go_wp2_with fail
    generalize ((w7.setCell ⟨w.heap.size, 0, none⟩ (.int .u64 (h : Int))).setCell ⟨w.heap.size, 1, none⟩ (.int .u64 (l : Int))).setCell ⟨w.heap.size, 2, none⟩ (.bool (!zz)) = w8 at *
    have r0 : w8.cell? ⟨w.heap.size, 0, none⟩ = some (.int .u64 (h : Int)) := R8.out.cell 0
    have r1 : w8.cell? ⟨w.heap.size, 1, none⟩ = some (.int .u64 (l : Int)) := R8.out.cell 1
    have r2 : w8.cell? ⟨w.heap.size, 2, none⟩ = some (.bool (!zz)) := R8.out.cell 2
    exact bodyPost_ret (v := .agg #[.int .u64 (h : Int), .int .u64 (l : Int), .bool (!zz)]) (by simp [results, Try.results109, go_sem, r0, r1, r2]) rfl ⟨h, l, _, HJ.out, rfl, N8.out⟩
  · go_upto_region 4 with (fail)
    have P5 : Row (((w3.alloc (Obj.cells #[Value.int IntKind.u64 0, Value.int IntKind.u64 ↑A, Value.bool true] 161)).alloc (Obj.cells #[Value.int IntKind.u64 0, Value.int IntKind.u64 ↑B, Value.bool true] 161)).alloc (Obj.cells #[Value.int IntKind.u64 ↑h, Value.int IntKind.u64 ↑l, Value.bool false] 161)) (w3.heap.size + 1 + 1) 161 (wideRow2 h l false) := Row.new_at _ 161 (wideRow2 h l false) (by simp)
    have R5 : Row (((w3.alloc (Obj.cells #[Value.int IntKind.u64 0, Value.int IntKind.u64 ↑A, Value.bool true] 161)).alloc (Obj.cells #[Value.int IntKind.u64 0, Value.int IntKind.u64 ↑B, Value.bool true] 161)).alloc (Obj.cells #[Value.int IntKind.u64 ↑h, Value.int IntKind.u64 ↑l, Value.bool false] 161)) w.heap.size 161 (wideRow2 0 0 false) := ((R3.out.alloc _).alloc _).alloc _
    have N5 : New w (((w3.alloc (Obj.cells #[Value.int IntKind.u64 0, Value.int IntKind.u64 ↑A, Value.bool true] 161)).alloc (Obj.cells #[Value.int IntKind.u64 0, Value.int IntKind.u64 ↑B, Value.bool true] 161)).alloc (Obj.cells #[Value.int IntKind.u64 ↑h, Value.int IntKind.u64 ↑l, Value.bool false] 161)) := ((N3.out.alloc _).alloc _).alloc _
    have HI5 : IsW h l (false) (a * b) := by have := HI.out; simpa using this
    have RR5 := Lib.hid R5
    have NN5 := Lib.hid N5
    have HJ := Lib.hid HI5
    have PP5 := Lib.hid P5
    have l5 := P5.lt
    clear R3 N3 R5 N5 HI HI5 P5
    generalize (((w3.alloc (Obj.cells #[Value.int IntKind.u64 0, Value.int IntKind.u64 ↑A, Value.bool true] 161)).alloc (Obj.cells #[Value.int IntKind.u64 0, Value.int IntKind.u64 ↑B, Value.bool true] 161)).alloc (Obj.cells #[Value.int IntKind.u64 ↑h, Value.int IntKind.u64 ↑l, Value.bool false] 161)) = w5 at *
    generalize w3.heap.size = z at *
    have p0 : w5.cell? ⟨z + 1 + 1, 0, none⟩ = some (.int .u64 (h : Int)) := PP5.out.cell 0
    have p1 : w5.cell? ⟨z + 1 + 1, 1, none⟩ = some (.int .u64 (l : Int)) := PP5.out.cell 1
    have p2 : w5.cell? ⟨z + 1 + 1, 2, none⟩ = some (.bool false) := PP5.out.cell 2
    have pf := PP5.out.free 2
    have P6 := Lib.hid PP5.out
    have R6 := Lib.hid RR5.out
    have N6 := Lib.hid NN5.out
    clear PP5 RR5 NN5 IZ
    go_upto_region 5 with (fail)
    have P7 := Lib.hid (P6.out.set 2 (.bool (false)))
    have R7 := Lib.hid (R6.out.far (p := ⟨z + 1 + 1, 2, none⟩) (show w.heap.size ≠ z + 1 + 1 by omega) (.bool (false)))
    have N7 := Lib.hid (new_set N6.out (z + 1 + 1) (by omega) 2 (.bool (false)))
    clear P6 R6 N6 p0 p1 p2 pf l5
    generalize w5.setCell ⟨z + 1 + 1, 2, none⟩ (.bool (false)) = w7 at *
    have l5 := P7.out.lt
    have p0 : w7.cell? ⟨z + 1 + 1, 0, none⟩ = some (.int .u64 (h : Int)) := P7.out.cell 0
    have p1 : w7.cell? ⟨z + 1 + 1, 1, none⟩ = some (.int .u64 (l : Int)) := P7.out.cell 1
    have p2 : w7.cell? ⟨z + 1 + 1, 2, none⟩ = some (.bool (false)) := P7.out.cell 2
    have r0 : w7.cell? ⟨w.heap.size, 0, none⟩ = some (.int .u64 0) := R7.out.cell 0
    have r1 : w7.cell? ⟨w.heap.size, 1, none⟩ = some (.int .u64 0) := R7.out.cell 1
    have r2 : w7.cell? ⟨w.heap.size, 2, none⟩ = some (.bool false) := R7.out.cell 2
    have rf0 := R7.out.free 0
    have rf1 := R7.out.free 1
    have rf2 := R7.out.free 2
    have R8 := Lib.hid (((R7.out.set 0 (.int .u64 (h : Int))).set 1 (.int .u64 (l : Int))).set 2 (.bool (false)))
    have N8 := Lib.hid (new_set3 N7.out w.heap.size (by omega) 0 1 2 (.int .u64 (h : Int)) (.int .u64 (l : Int)) (.bool (false)))
    clear P7 R7 N7
    go_wp2_with fail
    generalize ((w7.setCell ⟨w.heap.size, 0, none⟩ (.int .u64 (h : Int))).setCell ⟨w.heap.size, 1, none⟩ (.int .u64 (l : Int))).setCell ⟨w.heap.size, 2, none⟩ (.bool (false)) = w8 at *
    have r0 : w8.cell? ⟨w.heap.size, 0, none⟩ = some (.int .u64 (h : Int)) := R8.out.cell 0
    have r1 : w8.cell? ⟨w.heap.size, 1, none⟩ = some (.int .u64 (l : Int)) := R8.out.cell 1
    have r2 : w8.cell? ⟨w.heap.size, 2, none⟩ = some (.bool (false)) := R8.out.cell 2
    exact bodyPost_ret (v := .agg #[.int .u64 (h : Int), .int .u64 (l : Int), .bool (false)]) (by simp [results, Try.results109, go_sem, r0, r1, r2]) rfl ⟨h, l, _, HJ.out, rfl, N8.out⟩
end Go.Proofs.Ytapfihlgemejiaa
