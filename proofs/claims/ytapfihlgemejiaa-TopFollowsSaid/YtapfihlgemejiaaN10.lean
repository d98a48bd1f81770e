/- rat: made. -/
import Derived.Test.YtapfihlgemejiaaN9
namespace Go.Proofs.Ytapfihlgemejiaa
open Go.RowKit

/-- A whole number by a divisor of it. -/
def quo (m : Int) (g : Nat) : Int := if m < 0 then -((m.natAbs / g : Nat) : Int) else ((m.natAbs / g : Nat) : Int)
theorem quo_isW {m : Int} {g h l : Nat} (hg : 0 < g) (hd : g ∣ m.natAbs) (hh : h < 18446744073709551616) (hl : l < 18446744073709551616) (ht : two h l = m.natAbs / g) {s : Bool} (hs : s = decide (m < 0)) :
    IsW h l s (quo m g) := by
  refine ⟨hh, hl, ?_, ?_⟩
  · rw [ht]; unfold quo; split <;> omega
  · rw [hs]; unfold quo
    split
    · rename_i h0
      have h1 : 0 < m.natAbs / g := Nat.div_pos (Nat.le_of_dvd (by omega) hd) hg
      rw [decide_eq_true h0]; exact (decide_eq_true (by omega)).symm
    · rename_i h0
      rw [decide_eq_false h0]; exact (decide_eq_false (by omega)).symm
def MadeRes (m n : Int) (w : World) (e : Ending) (w' : World) : Prop :=
  New w w' ∧ ((In64 (quo m (Nat.gcd m.natAbs n.natAbs)) ∧ In64 (quo n (Nat.gcd m.natAbs n.natAbs)) ∧
    e = .returned (.tuple #[.agg #[.int .i64 (quo m (Nat.gcd m.natAbs n.natAbs)), .int .i64 (quo n (Nat.gcd m.natAbs n.natAbs))], .int .i64 0])) ∨
   (¬ (In64 (quo m (Nat.gcd m.natAbs n.natAbs)) ∧ In64 (quo n (Nat.gcd m.natAbs n.natAbs))) ∧ e = .returned (.tuple #[.agg #[.int .i64 0, .int .i64 0], .int .i64 20])))
set_option maxRecDepth 100000 in
set_option maxHeartbeats 1000000 in
theorem made_tyy (ah al bh bl : Nat) (m n : Int) (ha : IsW ah al true m) (hb : IsW bh bl false n) (hn0 : 0 < n) (hs : two bh bl ≤ 170141183460469231731687303715884105728)
    (y1 : In64 (quo m (Nat.gcd m.natAbs n.natAbs))) (y2 : In64 (quo n (Nat.gcd m.natAbs n.natAbs))) (w : World) :
    Calls Try.prog 115 #[.agg #[.int .u64 ah, .int .u64 al, .bool true], .agg #[.int .u64 bh, .int .u64 bl, .bool false]] w (MadeRes m n w) := by
  have hgp : 0 < Nat.gcd m.natAbs n.natAbs := Nat.gcd_pos_of_pos_right _ (by omega)
  have hgl : Nat.gcd m.natAbs n.natAbs ≤ 170141183460469231731687303715884105728 := Nat.le_trans (Nat.le_of_dvd (by omega) (Nat.gcd_dvd_right _ _)) (by rw [← hb.2.2.1]; exact hs)
  have CO := Lib.hid (fun W => common_any ah al bh bl ha.1 ha.2.1 hb.1 hb.2.1 hs W)
  have GP := Lib.hid (And.intro hgp hgl)
  have HA := Lib.hid ha
  have HB := Lib.hid hb
  have HN0 := Lib.hid hn0
  have Y1 := Lib.hid y1
  have Y2 := Lib.hid y2
  clear hgp hgl ha hb hn0 hs y1 y2
  go_enter Try.func115, Try.ntmps115
  go_wp2_with fail
  refine (CO.out _).mono ?_
  rintro e w1 ⟨gh, gl, hgh, hgl, hg, rfl, hn⟩
  have hg : two gh gl = Nat.gcd m.natAbs n.natAbs := by rw [hg, HA.out.2.2.1, HB.out.2.2.1]
  have hg1 : 0 < two gh gl := by rw [hg]; exact GP.out.1
  have hg2 : two gh gl ≤ 170141183460469231731687303715884105728 := by rw [hg]; exact GP.out.2
  have OV1 := Lib.hid (fun W => over_any ah al gh gl HA.out.1 HA.out.2.1 hgh hgl hg1 hg2 W)
  have OV2 := Lib.hid (fun W => over_any bh bl gh gl HB.out.1 HB.out.2.1 hgh hgl hg1 hg2 W)
  have HG := Lib.hid hg
  clear hg hg1 hg2 hgh hgl CO
  have A1 := Lib.hid (hn.row ((((Row.new_at w 161 [.int .u64 (ah : Int), .int .u64 (al : Int), .bool true] (g := w.heap.size) (by simp)).alloc (.cells #[.int .u64 (bh : Int), .int .u64 (bl : Int), .bool false] 161)).alloc (.cells #[.int .i64 0, .int .i64 0] 75))))
  have B1 := Lib.hid (hn.row (((Row.new_at (w.alloc (.cells #[.int .u64 (ah : Int), .int .u64 (al : Int), .bool true] 161)) 161 [.int .u64 (bh : Int), .int .u64 (bl : Int), .bool false] (g := w.heap.size + 1) (by simp)).alloc (.cells #[.int .i64 0, .int .i64 0] 75))))
  have R1 := Lib.hid (hn.row ((Row.new_at ((w.alloc (.cells #[.int .u64 (ah : Int), .int .u64 (al : Int), .bool true] 161)).alloc (.cells #[.int .u64 (bh : Int), .int .u64 (bl : Int), .bool false] 161)) 75 [.int .i64 0, .int .i64 0] (g := w.heap.size + 1 + 1) (by simp))))
  have N1 := Lib.hid ((((((New.refl w).alloc (.cells #[.int .u64 (ah : Int), .int .u64 (al : Int), .bool true] 161)).alloc (.cells #[.int .u64 (bh : Int), .int .u64 (bl : Int), .bool false] 161)).alloc (.cells #[.int .i64 0, .int .i64 0] 75))).trans hn)
  clear hn
  have cA1_0 : w1.cell? ⟨w.heap.size, 0, none⟩ = some (.int .u64 (ah : Int)) := A1.out.cell 0
  have cA1_1 : w1.cell? ⟨w.heap.size, 1, none⟩ = some (.int .u64 (al : Int)) := A1.out.cell 1
  have cA1_2 : w1.cell? ⟨w.heap.size, 2, none⟩ = some (.bool true) := A1.out.cell 2
  have lA1 : w.heap.size < w1.heap.size := A1.out.lt
  have cB1_0 : w1.cell? ⟨w.heap.size + 1, 0, none⟩ = some (.int .u64 (bh : Int)) := B1.out.cell 0
  have cB1_1 : w1.cell? ⟨w.heap.size + 1, 1, none⟩ = some (.int .u64 (bl : Int)) := B1.out.cell 1
  have cB1_2 : w1.cell? ⟨w.heap.size + 1, 2, none⟩ = some (.bool false) := B1.out.cell 2
  have lB1 : w.heap.size + 1 < w1.heap.size := B1.out.lt
  have cR1_0 : w1.cell? ⟨w.heap.size + 1 + 1, 0, none⟩ = some (.int .i64 0) := R1.out.cell 0
  have cR1_1 : w1.cell? ⟨w.heap.size + 1 + 1, 1, none⟩ = some (.int .i64 0) := R1.out.cell 1
  have lR1 : w.heap.size + 1 + 1 < w1.heap.size := R1.out.lt
  go_wp2_with fail
  refine (OV1.out _).mono ?_
  rintro e w2 ⟨ph, pl, p2h, p2l, hph, hpl, _, _, hp, _, rfl, hn⟩
  have A2 := Lib.hid (hn.row ((A1.out.alloc (.cells #[.int .u64 (gh : Int), .int .u64 (gl : Int)] 159))))
  have B2 := Lib.hid (hn.row ((B1.out.alloc (.cells #[.int .u64 (gh : Int), .int .u64 (gl : Int)] 159))))
  have R2 := Lib.hid (hn.row ((R1.out.alloc (.cells #[.int .u64 (gh : Int), .int .u64 (gl : Int)] 159))))
  have G2 := Lib.hid (hn.row ((Row.new_at w1 159 [.int .u64 (gh : Int), .int .u64 (gl : Int)] (g := w1.heap.size) (by simp))))
  have N2 := Lib.hid (((N1.out.alloc (.cells #[.int .u64 (gh : Int), .int .u64 (gl : Int)] 159))).trans hn)
  clear hn cA1_0 cA1_1 cA1_2 lA1 cB1_0 cB1_1 cB1_2 lB1 cR1_0 cR1_1 lR1 A1 B1 R1 N1
  generalize w1.heap.size = z1 at *
  have cA2_0 : w2.cell? ⟨w.heap.size, 0, none⟩ = some (.int .u64 (ah : Int)) := A2.out.cell 0
  have cA2_1 : w2.cell? ⟨w.heap.size, 1, none⟩ = some (.int .u64 (al : Int)) := A2.out.cell 1
  have cA2_2 : w2.cell? ⟨w.heap.size, 2, none⟩ = some (.bool true) := A2.out.cell 2
  have lA2 : w.heap.size < w2.heap.size := A2.out.lt
  have cB2_0 : w2.cell? ⟨w.heap.size + 1, 0, none⟩ = some (.int .u64 (bh : Int)) := B2.out.cell 0
  have cB2_1 : w2.cell? ⟨w.heap.size + 1, 1, none⟩ = some (.int .u64 (bl : Int)) := B2.out.cell 1
  have cB2_2 : w2.cell? ⟨w.heap.size + 1, 2, none⟩ = some (.bool false) := B2.out.cell 2
  have lB2 : w.heap.size + 1 < w2.heap.size := B2.out.lt
  have cR2_0 : w2.cell? ⟨w.heap.size + 1 + 1, 0, none⟩ = some (.int .i64 0) := R2.out.cell 0
  have cR2_1 : w2.cell? ⟨w.heap.size + 1 + 1, 1, none⟩ = some (.int .i64 0) := R2.out.cell 1
  have lR2 : w.heap.size + 1 + 1 < w2.heap.size := R2.out.lt
  have cG2_0 : w2.cell? ⟨z1, 0, none⟩ = some (.int .u64 (gh : Int)) := G2.out.cell 0
  have cG2_1 : w2.cell? ⟨z1, 1, none⟩ = some (.int .u64 (gl : Int)) := G2.out.cell 1
  have lG2 : z1 < w2.heap.size := G2.out.lt
  have hp : two ph pl = m.natAbs / Nat.gcd m.natAbs n.natAbs := by rw [hp, HG.out, HA.out.2.2.1]
  have hP : IsW ph pl true (quo m (Nat.gcd m.natAbs n.natAbs)) := quo_isW GP.out.1 (Nat.gcd_dvd_left _ _) hph hpl hp HA.out.2.2.2
  have HP := Lib.hid hP
  clear hp hP hph hpl OV1
  go_wp2_with fail
  refine (OV2.out _).mono ?_
  rintro e w3 ⟨qh, ql, q2h, q2l, hqh, hql, _, _, hq, _, rfl, hn⟩
  have A3 := Lib.hid (hn.row (((A2.out.alloc (.cells #[.int .u64 (ph : Int), .int .u64 (pl : Int)] 159)).alloc (.cells #[.int .u64 (p2h : Int), .int .u64 (p2l : Int)] 159))))
  have B3 := Lib.hid (hn.row (((B2.out.alloc (.cells #[.int .u64 (ph : Int), .int .u64 (pl : Int)] 159)).alloc (.cells #[.int .u64 (p2h : Int), .int .u64 (p2l : Int)] 159))))
  have R3 := Lib.hid (hn.row (((R2.out.alloc (.cells #[.int .u64 (ph : Int), .int .u64 (pl : Int)] 159)).alloc (.cells #[.int .u64 (p2h : Int), .int .u64 (p2l : Int)] 159))))
  have G3 := Lib.hid (hn.row (((G2.out.alloc (.cells #[.int .u64 (ph : Int), .int .u64 (pl : Int)] 159)).alloc (.cells #[.int .u64 (p2h : Int), .int .u64 (p2l : Int)] 159))))
  have P3 := Lib.hid (hn.row (((Row.new_at w2 159 [.int .u64 (ph : Int), .int .u64 (pl : Int)] (g := w2.heap.size) (by simp)).alloc (.cells #[.int .u64 (p2h : Int), .int .u64 (p2l : Int)] 159))))
  have N3 := Lib.hid ((((N2.out.alloc (.cells #[.int .u64 (ph : Int), .int .u64 (pl : Int)] 159)).alloc (.cells #[.int .u64 (p2h : Int), .int .u64 (p2l : Int)] 159))).trans hn)
  clear hn cA2_0 cA2_1 cA2_2 lA2 cB2_0 cB2_1 cB2_2 lB2 cR2_0 cR2_1 lR2 cG2_0 cG2_1 lG2 A2 B2 R2 G2 N2
  generalize w2.heap.size = z2 at *
  have cA3_0 : w3.cell? ⟨w.heap.size, 0, none⟩ = some (.int .u64 (ah : Int)) := A3.out.cell 0
  have cA3_1 : w3.cell? ⟨w.heap.size, 1, none⟩ = some (.int .u64 (al : Int)) := A3.out.cell 1
  have cA3_2 : w3.cell? ⟨w.heap.size, 2, none⟩ = some (.bool true) := A3.out.cell 2
  have lA3 : w.heap.size < w3.heap.size := A3.out.lt
  have cB3_0 : w3.cell? ⟨w.heap.size + 1, 0, none⟩ = some (.int .u64 (bh : Int)) := B3.out.cell 0
  have cB3_1 : w3.cell? ⟨w.heap.size + 1, 1, none⟩ = some (.int .u64 (bl : Int)) := B3.out.cell 1
  have cB3_2 : w3.cell? ⟨w.heap.size + 1, 2, none⟩ = some (.bool false) := B3.out.cell 2
  have lB3 : w.heap.size + 1 < w3.heap.size := B3.out.lt
  have cR3_0 : w3.cell? ⟨w.heap.size + 1 + 1, 0, none⟩ = some (.int .i64 0) := R3.out.cell 0
  have cR3_1 : w3.cell? ⟨w.heap.size + 1 + 1, 1, none⟩ = some (.int .i64 0) := R3.out.cell 1
  have lR3 : w.heap.size + 1 + 1 < w3.heap.size := R3.out.lt
  have cG3_0 : w3.cell? ⟨z1, 0, none⟩ = some (.int .u64 (gh : Int)) := G3.out.cell 0
  have cG3_1 : w3.cell? ⟨z1, 1, none⟩ = some (.int .u64 (gl : Int)) := G3.out.cell 1
  have lG3 : z1 < w3.heap.size := G3.out.lt
  have cP3_0 : w3.cell? ⟨z2, 0, none⟩ = some (.int .u64 (ph : Int)) := P3.out.cell 0
  have cP3_1 : w3.cell? ⟨z2, 1, none⟩ = some (.int .u64 (pl : Int)) := P3.out.cell 1
  have lP3 : z2 < w3.heap.size := P3.out.lt
  have hq : two qh ql = n.natAbs / Nat.gcd m.natAbs n.natAbs := by rw [hq, HG.out, HB.out.2.2.1]
  have hQ : IsW qh ql false (quo n (Nat.gcd m.natAbs n.natAbs)) := quo_isW GP.out.1 (Nat.gcd_dvd_right _ _) hqh hql hq HB.out.2.2.2
  have NU1 := Lib.hid (fun W => number_yes ph pl true _ HP.out Y1.out W)
  have NU2 := Lib.hid (fun W => number_yes qh ql false _ hQ Y2.out W)
  have hz : two ph pl ≠ 0 := by
    have h1 := HP.out.2.2.1
    have h2 : decide (quo m (Nat.gcd m.natAbs n.natAbs) < 0) = true := HP.out.2.2.2.symm
    have h3 := of_decide_eq_true h2
    omega
  have IZ := Lib.hid (fun W => isZero_no ph pl hz W)
  clear hz
  clear hq hQ hqh hql OV2
  obtain ⟨p, hp⟩ : ∃ p, p = quo m (Nat.gcd m.natAbs n.natAbs) := ⟨_, rfl⟩
  obtain ⟨q, hq⟩ : ∃ q, q = quo n (Nat.gcd m.natAbs n.natAbs) := ⟨_, rfl⟩
  rw [← hp] at NU1 Y1
  rw [← hq] at NU2 Y2
  have HPQ := Lib.hid (And.intro hp hq)
  clear hp hq HP
  go_wp2_with fail
  refine (IZ.out _).mono ?_
  rintro e w4 ⟨rfl, hn⟩
  have A4 := Lib.hid (hn.row (((A3.out.alloc (.cells #[.int .u64 (qh : Int), .int .u64 (ql : Int)] 159)).alloc (.cells #[.int .u64 (q2h : Int), .int .u64 (q2l : Int)] 159))))
  have B4 := Lib.hid (hn.row (((B3.out.alloc (.cells #[.int .u64 (qh : Int), .int .u64 (ql : Int)] 159)).alloc (.cells #[.int .u64 (q2h : Int), .int .u64 (q2l : Int)] 159))))
  have R4 := Lib.hid (hn.row (((R3.out.alloc (.cells #[.int .u64 (qh : Int), .int .u64 (ql : Int)] 159)).alloc (.cells #[.int .u64 (q2h : Int), .int .u64 (q2l : Int)] 159))))
  have G4 := Lib.hid (hn.row (((G3.out.alloc (.cells #[.int .u64 (qh : Int), .int .u64 (ql : Int)] 159)).alloc (.cells #[.int .u64 (q2h : Int), .int .u64 (q2l : Int)] 159))))
  have P4 := Lib.hid (hn.row (((P3.out.alloc (.cells #[.int .u64 (qh : Int), .int .u64 (ql : Int)] 159)).alloc (.cells #[.int .u64 (q2h : Int), .int .u64 (q2l : Int)] 159))))
  have Q4 := Lib.hid (hn.row (((Row.new_at w3 159 [.int .u64 (qh : Int), .int .u64 (ql : Int)] (g := w3.heap.size) (by simp)).alloc (.cells #[.int .u64 (q2h : Int), .int .u64 (q2l : Int)] 159))))
  have N4 := Lib.hid ((((N3.out.alloc (.cells #[.int .u64 (qh : Int), .int .u64 (ql : Int)] 159)).alloc (.cells #[.int .u64 (q2h : Int), .int .u64 (q2l : Int)] 159))).trans hn)
  clear hn cA3_0 cA3_1 cA3_2 lA3 cB3_0 cB3_1 cB3_2 lB3 cR3_0 cR3_1 lR3 cG3_0 cG3_1 lG3 cP3_0 cP3_1 lP3 A3 B3 R3 G3 P3 N3
  generalize w3.heap.size = z3 at *
  have cA4_0 : w4.cell? ⟨w.heap.size, 0, none⟩ = some (.int .u64 (ah : Int)) := A4.out.cell 0
  have cA4_1 : w4.cell? ⟨w.heap.size, 1, none⟩ = some (.int .u64 (al : Int)) := A4.out.cell 1
  have cA4_2 : w4.cell? ⟨w.heap.size, 2, none⟩ = some (.bool true) := A4.out.cell 2
  have lA4 : w.heap.size < w4.heap.size := A4.out.lt
  have cB4_0 : w4.cell? ⟨w.heap.size + 1, 0, none⟩ = some (.int .u64 (bh : Int)) := B4.out.cell 0
  have cB4_1 : w4.cell? ⟨w.heap.size + 1, 1, none⟩ = some (.int .u64 (bl : Int)) := B4.out.cell 1
  have cB4_2 : w4.cell? ⟨w.heap.size + 1, 2, none⟩ = some (.bool false) := B4.out.cell 2
  have lB4 : w.heap.size + 1 < w4.heap.size := B4.out.lt
  have cR4_0 : w4.cell? ⟨w.heap.size + 1 + 1, 0, none⟩ = some (.int .i64 0) := R4.out.cell 0
  have cR4_1 : w4.cell? ⟨w.heap.size + 1 + 1, 1, none⟩ = some (.int .i64 0) := R4.out.cell 1
  have lR4 : w.heap.size + 1 + 1 < w4.heap.size := R4.out.lt
  have cG4_0 : w4.cell? ⟨z1, 0, none⟩ = some (.int .u64 (gh : Int)) := G4.out.cell 0
  have cG4_1 : w4.cell? ⟨z1, 1, none⟩ = some (.int .u64 (gl : Int)) := G4.out.cell 1
  have lG4 : z1 < w4.heap.size := G4.out.lt
  have cP4_0 : w4.cell? ⟨z2, 0, none⟩ = some (.int .u64 (ph : Int)) := P4.out.cell 0
  have cP4_1 : w4.cell? ⟨z2, 1, none⟩ = some (.int .u64 (pl : Int)) := P4.out.cell 1
  have lP4 : z2 < w4.heap.size := P4.out.lt
  have cQ4_0 : w4.cell? ⟨z3, 0, none⟩ = some (.int .u64 (qh : Int)) := Q4.out.cell 0
  have cQ4_1 : w4.cell? ⟨z3, 1, none⟩ = some (.int .u64 (ql : Int)) := Q4.out.cell 1
  have lQ4 : z3 < w4.heap.size := Q4.out.lt
  clear IZ
  go_wp2_with fail
  refine (NU1.out _).mono ?_
  rintro e w5 ⟨rfl, hn⟩
  have A5 := Lib.hid (hn.row (A4.out))
  have B5 := Lib.hid (hn.row (B4.out))
  have R5 := Lib.hid (hn.row (R4.out))
  have G5 := Lib.hid (hn.row (G4.out))
  have P5 := Lib.hid (hn.row (P4.out))
  have Q5 := Lib.hid (hn.row (Q4.out))
  have N5 := Lib.hid ((N4.out).trans hn)
  clear hn cA4_0 cA4_1 cA4_2 lA4 cB4_0 cB4_1 cB4_2 lB4 cR4_0 cR4_1 lR4 cG4_0 cG4_1 lG4 cP4_0 cP4_1 lP4 cQ4_0 cQ4_1 lQ4 A4 B4 R4 G4 P4 Q4 N4
  have cA5_0 : w5.cell? ⟨w.heap.size, 0, none⟩ = some (.int .u64 (ah : Int)) := A5.out.cell 0
  have cA5_1 : w5.cell? ⟨w.heap.size, 1, none⟩ = some (.int .u64 (al : Int)) := A5.out.cell 1
  have cA5_2 : w5.cell? ⟨w.heap.size, 2, none⟩ = some (.bool true) := A5.out.cell 2
  have lA5 : w.heap.size < w5.heap.size := A5.out.lt
  have cB5_0 : w5.cell? ⟨w.heap.size + 1, 0, none⟩ = some (.int .u64 (bh : Int)) := B5.out.cell 0
  have cB5_1 : w5.cell? ⟨w.heap.size + 1, 1, none⟩ = some (.int .u64 (bl : Int)) := B5.out.cell 1
  have cB5_2 : w5.cell? ⟨w.heap.size + 1, 2, none⟩ = some (.bool false) := B5.out.cell 2
  have lB5 : w.heap.size + 1 < w5.heap.size := B5.out.lt
  have cR5_0 : w5.cell? ⟨w.heap.size + 1 + 1, 0, none⟩ = some (.int .i64 0) := R5.out.cell 0
  have cR5_1 : w5.cell? ⟨w.heap.size + 1 + 1, 1, none⟩ = some (.int .i64 0) := R5.out.cell 1
  have lR5 : w.heap.size + 1 + 1 < w5.heap.size := R5.out.lt
  have cG5_0 : w5.cell? ⟨z1, 0, none⟩ = some (.int .u64 (gh : Int)) := G5.out.cell 0
  have cG5_1 : w5.cell? ⟨z1, 1, none⟩ = some (.int .u64 (gl : Int)) := G5.out.cell 1
  have lG5 : z1 < w5.heap.size := G5.out.lt
  have cP5_0 : w5.cell? ⟨z2, 0, none⟩ = some (.int .u64 (ph : Int)) := P5.out.cell 0
  have cP5_1 : w5.cell? ⟨z2, 1, none⟩ = some (.int .u64 (pl : Int)) := P5.out.cell 1
  have lP5 : z2 < w5.heap.size := P5.out.lt
  have cQ5_0 : w5.cell? ⟨z3, 0, none⟩ = some (.int .u64 (qh : Int)) := Q5.out.cell 0
  have cQ5_1 : w5.cell? ⟨z3, 1, none⟩ = some (.int .u64 (ql : Int)) := Q5.out.cell 1
  have lQ5 : z3 < w5.heap.size := Q5.out.lt
  go_wp2_with fail
  refine (NU2.out _).mono ?_
  rintro e w6 ⟨rfl, hn⟩
  have A6 := Lib.hid (hn.row (A5.out))
  have B6 := Lib.hid (hn.row (B5.out))
  have R6 := Lib.hid (hn.row (R5.out))
  have G6 := Lib.hid (hn.row (G5.out))
  have P6 := Lib.hid (hn.row (P5.out))
  have Q6 := Lib.hid (hn.row (Q5.out))
  have N6 := Lib.hid ((N5.out).trans hn)
  clear hn cA5_0 cA5_1 cA5_2 lA5 cB5_0 cB5_1 cB5_2 lB5 cR5_0 cR5_1 lR5 cG5_0 cG5_1 lG5 cP5_0 cP5_1 lP5 cQ5_0 cQ5_1 lQ5 A5 B5 R5 G5 P5 Q5 N5
  have cA6_0 : w6.cell? ⟨w.heap.size, 0, none⟩ = some (.int .u64 (ah : Int)) := A6.out.cell 0
  have cA6_1 : w6.cell? ⟨w.heap.size, 1, none⟩ = some (.int .u64 (al : Int)) := A6.out.cell 1
  have cA6_2 : w6.cell? ⟨w.heap.size, 2, none⟩ = some (.bool true) := A6.out.cell 2
  have lA6 : w.heap.size < w6.heap.size := A6.out.lt
  have cB6_0 : w6.cell? ⟨w.heap.size + 1, 0, none⟩ = some (.int .u64 (bh : Int)) := B6.out.cell 0
  have cB6_1 : w6.cell? ⟨w.heap.size + 1, 1, none⟩ = some (.int .u64 (bl : Int)) := B6.out.cell 1
  have cB6_2 : w6.cell? ⟨w.heap.size + 1, 2, none⟩ = some (.bool false) := B6.out.cell 2
  have lB6 : w.heap.size + 1 < w6.heap.size := B6.out.lt
  have cR6_0 : w6.cell? ⟨w.heap.size + 1 + 1, 0, none⟩ = some (.int .i64 0) := R6.out.cell 0
  have cR6_1 : w6.cell? ⟨w.heap.size + 1 + 1, 1, none⟩ = some (.int .i64 0) := R6.out.cell 1
  have lR6 : w.heap.size + 1 + 1 < w6.heap.size := R6.out.lt
  have cG6_0 : w6.cell? ⟨z1, 0, none⟩ = some (.int .u64 (gh : Int)) := G6.out.cell 0
  have cG6_1 : w6.cell? ⟨z1, 1, none⟩ = some (.int .u64 (gl : Int)) := G6.out.cell 1
  have lG6 : z1 < w6.heap.size := G6.out.lt
  have cP6_0 : w6.cell? ⟨z2, 0, none⟩ = some (.int .u64 (ph : Int)) := P6.out.cell 0
  have cP6_1 : w6.cell? ⟨z2, 1, none⟩ = some (.int .u64 (pl : Int)) := P6.out.cell 1
  have lP6 : z2 < w6.heap.size := P6.out.lt
  have cQ6_0 : w6.cell? ⟨z3, 0, none⟩ = some (.int .u64 (qh : Int)) := Q6.out.cell 0
  have cQ6_1 : w6.cell? ⟨z3, 1, none⟩ = some (.int .u64 (ql : Int)) := Q6.out.cell 1
  have lQ6 : z3 < w6.heap.size := Q6.out.lt
  have fR6_0 : w6.frozen? ⟨w.heap.size + 1 + 1, 0, none⟩ = false := R6.out.free 0
  have fR6_1 : w6.frozen? ⟨w.heap.size + 1 + 1, 1, none⟩ = false := R6.out.free 1
  have R9 := Lib.hid ((R6.out.set 0 (.int .i64 p)).set 1 (.int .i64 q))
  have N9 := Lib.hid (new_set (new_set N6.out (w.heap.size + 1 + 1) (by omega) 0 (.int .i64 p)) (w.heap.size + 1 + 1) (by omega) 1 (.int .i64 q))
  clear NU1 NU2 A6 B6 G6 P6 Q6
  go_wp2_with fail
  generalize (w6.setCell ⟨w.heap.size + 1 + 1, 0, none⟩ (.int .i64 p)).setCell ⟨w.heap.size + 1 + 1, 1, none⟩ (.int .i64 q) = w9 at *
  have r0 : w9.cell? ⟨w.heap.size + 1 + 1, 0, none⟩ = some (.int .i64 p) := R9.out.cell 0
  have r1 : w9.cell? ⟨w.heap.size + 1 + 1, 1, none⟩ = some (.int .i64 q) := R9.out.cell 1
  exact bodyPost_ret (v := .tuple #[.agg #[.int .i64 p, .int .i64 q], .int .i64 0]) (by simp [results, Try.results115, go_sem, r0, r1]) rfl
    ⟨N9.out, by rw [← HPQ.out.1, ← HPQ.out.2]; exact .inl ⟨Y1.out, Y2.out, rfl⟩⟩
set_option maxRecDepth 100000 in
set_option maxHeartbeats 1000000 in
theorem made_tyn (ah al bh bl : Nat) (m n : Int) (ha : IsW ah al true m) (hb : IsW bh bl false n) (hn0 : 0 < n) (hs : two bh bl ≤ 170141183460469231731687303715884105728)
    (y1 : In64 (quo m (Nat.gcd m.natAbs n.natAbs))) (y2 : ¬ In64 (quo n (Nat.gcd m.natAbs n.natAbs))) (w : World) :
    Calls Try.prog 115 #[.agg #[.int .u64 ah, .int .u64 al, .bool true], .agg #[.int .u64 bh, .int .u64 bl, .bool false]] w (MadeRes m n w) := by
  have hgp : 0 < Nat.gcd m.natAbs n.natAbs := Nat.gcd_pos_of_pos_right _ (by omega)
  have hgl : Nat.gcd m.natAbs n.natAbs ≤ 170141183460469231731687303715884105728 := Nat.le_trans (Nat.le_of_dvd (by omega) (Nat.gcd_dvd_right _ _)) (by rw [← hb.2.2.1]; exact hs)
  have CO := Lib.hid (fun W => common_any ah al bh bl ha.1 ha.2.1 hb.1 hb.2.1 hs W)
  have GP := Lib.hid (And.intro hgp hgl)
  have HA := Lib.hid ha
  have HB := Lib.hid hb
  have HN0 := Lib.hid hn0
  have Y1 := Lib.hid y1
  have Y2 := Lib.hid y2
  clear hgp hgl ha hb hn0 hs y1 y2
  go_enter Try.func115, Try.ntmps115
  go_wp2_with fail
  refine (CO.out _).mono ?_
  rintro e w1 ⟨gh, gl, hgh, hgl, hg, rfl, hn⟩
  have hg : two gh gl = Nat.gcd m.natAbs n.natAbs := by rw [hg, HA.out.2.2.1, HB.out.2.2.1]
  have hg1 : 0 < two gh gl := by rw [hg]; exact GP.out.1
  have hg2 : two gh gl ≤ 170141183460469231731687303715884105728 := by rw [hg]; exact GP.out.2
  have OV1 := Lib.hid (fun W => over_any ah al gh gl HA.out.1 HA.out.2.1 hgh hgl hg1 hg2 W)
  have OV2 := Lib.hid (fun W => over_any bh bl gh gl HB.out.1 HB.out.2.1 hgh hgl hg1 hg2 W)
  have HG := Lib.hid hg
  clear hg hg1 hg2 hgh hgl CO
  have A1 := Lib.hid (hn.row ((((Row.new_at w 161 [.int .u64 (ah : Int), .int .u64 (al : Int), .bool true] (g := w.heap.size) (by simp)).alloc (.cells #[.int .u64 (bh : Int), .int .u64 (bl : Int), .bool false] 161)).alloc (.cells #[.int .i64 0, .int .i64 0] 75))))
  have B1 := Lib.hid (hn.row (((Row.new_at (w.alloc (.cells #[.int .u64 (ah : Int), .int .u64 (al : Int), .bool true] 161)) 161 [.int .u64 (bh : Int), .int .u64 (bl : Int), .bool false] (g := w.heap.size + 1) (by simp)).alloc (.cells #[.int .i64 0, .int .i64 0] 75))))
  have R1 := Lib.hid (hn.row ((Row.new_at ((w.alloc (.cells #[.int .u64 (ah : Int), .int .u64 (al : Int), .bool true] 161)).alloc (.cells #[.int .u64 (bh : Int), .int .u64 (bl : Int), .bool false] 161)) 75 [.int .i64 0, .int .i64 0] (g := w.heap.size + 1 + 1) (by simp))))
  have N1 := Lib.hid ((((((New.refl w).alloc (.cells #[.int .u64 (ah : Int), .int .u64 (al : Int), .bool true] 161)).alloc (.cells #[.int .u64 (bh : Int), .int .u64 (bl : Int), .bool false] 161)).alloc (.cells #[.int .i64 0, .int .i64 0] 75))).trans hn)
  clear hn
  have cA1_0 : w1.cell? ⟨w.heap.size, 0, none⟩ = some (.int .u64 (ah : Int)) := A1.out.cell 0
  have cA1_1 : w1.cell? ⟨w.heap.size, 1, none⟩ = some (.int .u64 (al : Int)) := A1.out.cell 1
  have cA1_2 : w1.cell? ⟨w.heap.size, 2, none⟩ = some (.bool true) := A1.out.cell 2
  have lA1 : w.heap.size < w1.heap.size := A1.out.lt
  have cB1_0 : w1.cell? ⟨w.heap.size + 1, 0, none⟩ = some (.int .u64 (bh : Int)) := B1.out.cell 0
  have cB1_1 : w1.cell? ⟨w.heap.size + 1, 1, none⟩ = some (.int .u64 (bl : Int)) := B1.out.cell 1
  have cB1_2 : w1.cell? ⟨w.heap.size + 1, 2, none⟩ = some (.bool false) := B1.out.cell 2
  have lB1 : w.heap.size + 1 < w1.heap.size := B1.out.lt
  have cR1_0 : w1.cell? ⟨w.heap.size + 1 + 1, 0, none⟩ = some (.int .i64 0) := R1.out.cell 0
  have cR1_1 : w1.cell? ⟨w.heap.size + 1 + 1, 1, none⟩ = some (.int .i64 0) := R1.out.cell 1
  have lR1 : w.heap.size + 1 + 1 < w1.heap.size := R1.out.lt
  go_wp2_with fail
  refine (OV1.out _).mono ?_
  rintro e w2 ⟨ph, pl, p2h, p2l, hph, hpl, _, _, hp, _, rfl, hn⟩
  have A2 := Lib.hid (hn.row ((A1.out.alloc (.cells #[.int .u64 (gh : Int), .int .u64 (gl : Int)] 159))))
  have B2 := Lib.hid (hn.row ((B1.out.alloc (.cells #[.int .u64 (gh : Int), .int .u64 (gl : Int)] 159))))
  have R2 := Lib.hid (hn.row ((R1.out.alloc (.cells #[.int .u64 (gh : Int), .int .u64 (gl : Int)] 159))))
  have G2 := Lib.hid (hn.row ((Row.new_at w1 159 [.int .u64 (gh : Int), .int .u64 (gl : Int)] (g := w1.heap.size) (by simp))))
  have N2 := Lib.hid (((N1.out.alloc (.cells #[.int .u64 (gh : Int), .int .u64 (gl : Int)] 159))).trans hn)
  clear hn cA1_0 cA1_1 cA1_2 lA1 cB1_0 cB1_1 cB1_2 lB1 cR1_0 cR1_1 lR1 A1 B1 R1 N1
  generalize w1.heap.size = z1 at *
  have cA2_0 : w2.cell? ⟨w.heap.size, 0, none⟩ = some (.int .u64 (ah : Int)) := A2.out.cell 0
  have cA2_1 : w2.cell? ⟨w.heap.size, 1, none⟩ = some (.int .u64 (al : Int)) := A2.out.cell 1
  have cA2_2 : w2.cell? ⟨w.heap.size, 2, none⟩ = some (.bool true) := A2.out.cell 2
  have lA2 : w.heap.size < w2.heap.size := A2.out.lt
  have cB2_0 : w2.cell? ⟨w.heap.size + 1, 0, none⟩ = some (.int .u64 (bh : Int)) := B2.out.cell 0
  have cB2_1 : w2.cell? ⟨w.heap.size + 1, 1, none⟩ = some (.int .u64 (bl : Int)) := B2.out.cell 1
  have cB2_2 : w2.cell? ⟨w.heap.size + 1, 2, none⟩ = some (.bool false) := B2.out.cell 2
  have lB2 : w.heap.size + 1 < w2.heap.size := B2.out.lt
  have cR2_0 : w2.cell? ⟨w.heap.size + 1 + 1, 0, none⟩ = some (.int .i64 0) := R2.out.cell 0
  have cR2_1 : w2.cell? ⟨w.heap.size + 1 + 1, 1, none⟩ = some (.int .i64 0) := R2.out.cell 1
  have lR2 : w.heap.size + 1 + 1 < w2.heap.size := R2.out.lt
  have cG2_0 : w2.cell? ⟨z1, 0, none⟩ = some (.int .u64 (gh : Int)) := G2.out.cell 0
  have cG2_1 : w2.cell? ⟨z1, 1, none⟩ = some (.int .u64 (gl : Int)) := G2.out.cell 1
  have lG2 : z1 < w2.heap.size := G2.out.lt
  have hp : two ph pl = m.natAbs / Nat.gcd m.natAbs n.natAbs := by rw [hp, HG.out, HA.out.2.2.1]
  have hP : IsW ph pl true (quo m (Nat.gcd m.natAbs n.natAbs)) := quo_isW GP.out.1 (Nat.gcd_dvd_left _ _) hph hpl hp HA.out.2.2.2
  have HP := Lib.hid hP
  clear hp hP hph hpl OV1
  go_wp2_with fail
  refine (OV2.out _).mono ?_
  rintro e w3 ⟨qh, ql, q2h, q2l, hqh, hql, _, _, hq, _, rfl, hn⟩
  have A3 := Lib.hid (hn.row (((A2.out.alloc (.cells #[.int .u64 (ph : Int), .int .u64 (pl : Int)] 159)).alloc (.cells #[.int .u64 (p2h : Int), .int .u64 (p2l : Int)] 159))))
  have B3 := Lib.hid (hn.row (((B2.out.alloc (.cells #[.int .u64 (ph : Int), .int .u64 (pl : Int)] 159)).alloc (.cells #[.int .u64 (p2h : Int), .int .u64 (p2l : Int)] 159))))
  have R3 := Lib.hid (hn.row (((R2.out.alloc (.cells #[.int .u64 (ph : Int), .int .u64 (pl : Int)] 159)).alloc (.cells #[.int .u64 (p2h : Int), .int .u64 (p2l : Int)] 159))))
  have G3 := Lib.hid (hn.row (((G2.out.alloc (.cells #[.int .u64 (ph : Int), .int .u64 (pl : Int)] 159)).alloc (.cells #[.int .u64 (p2h : Int), .int .u64 (p2l : Int)] 159))))
  have P3 := Lib.hid (hn.row (((Row.new_at w2 159 [.int .u64 (ph : Int), .int .u64 (pl : Int)] (g := w2.heap.size) (by simp)).alloc (.cells #[.int .u64 (p2h : Int), .int .u64 (p2l : Int)] 159))))
  have N3 := Lib.hid ((((N2.out.alloc (.cells #[.int .u64 (ph : Int), .int .u64 (pl : Int)] 159)).alloc (.cells #[.int .u64 (p2h : Int), .int .u64 (p2l : Int)] 159))).trans hn)
  clear hn cA2_0 cA2_1 cA2_2 lA2 cB2_0 cB2_1 cB2_2 lB2 cR2_0 cR2_1 lR2 cG2_0 cG2_1 lG2 A2 B2 R2 G2 N2
  generalize w2.heap.size = z2 at *
  have cA3_0 : w3.cell? ⟨w.heap.size, 0, none⟩ = some (.int .u64 (ah : Int)) := A3.out.cell 0
  have cA3_1 : w3.cell? ⟨w.heap.size, 1, none⟩ = some (.int .u64 (al : Int)) := A3.out.cell 1
  have cA3_2 : w3.cell? ⟨w.heap.size, 2, none⟩ = some (.bool true) := A3.out.cell 2
  have lA3 : w.heap.size < w3.heap.size := A3.out.lt
  have cB3_0 : w3.cell? ⟨w.heap.size + 1, 0, none⟩ = some (.int .u64 (bh : Int)) := B3.out.cell 0
  have cB3_1 : w3.cell? ⟨w.heap.size + 1, 1, none⟩ = some (.int .u64 (bl : Int)) := B3.out.cell 1
  have cB3_2 : w3.cell? ⟨w.heap.size + 1, 2, none⟩ = some (.bool false) := B3.out.cell 2
  have lB3 : w.heap.size + 1 < w3.heap.size := B3.out.lt
  have cR3_0 : w3.cell? ⟨w.heap.size + 1 + 1, 0, none⟩ = some (.int .i64 0) := R3.out.cell 0
  have cR3_1 : w3.cell? ⟨w.heap.size + 1 + 1, 1, none⟩ = some (.int .i64 0) := R3.out.cell 1
  have lR3 : w.heap.size + 1 + 1 < w3.heap.size := R3.out.lt
  have cG3_0 : w3.cell? ⟨z1, 0, none⟩ = some (.int .u64 (gh : Int)) := G3.out.cell 0
  have cG3_1 : w3.cell? ⟨z1, 1, none⟩ = some (.int .u64 (gl : Int)) := G3.out.cell 1
  have lG3 : z1 < w3.heap.size := G3.out.lt
  have cP3_0 : w3.cell? ⟨z2, 0, none⟩ = some (.int .u64 (ph : Int)) := P3.out.cell 0
  have cP3_1 : w3.cell? ⟨z2, 1, none⟩ = some (.int .u64 (pl : Int)) := P3.out.cell 1
  have lP3 : z2 < w3.heap.size := P3.out.lt
  have hq : two qh ql = n.natAbs / Nat.gcd m.natAbs n.natAbs := by rw [hq, HG.out, HB.out.2.2.1]
  have hQ : IsW qh ql false (quo n (Nat.gcd m.natAbs n.natAbs)) := quo_isW GP.out.1 (Nat.gcd_dvd_right _ _) hqh hql hq HB.out.2.2.2
  have NU1 := Lib.hid (fun W => number_yes ph pl true _ HP.out Y1.out W)
  have NU2 := Lib.hid (fun W => number_no qh ql false _ hQ Y2.out W)
  have hz : two ph pl ≠ 0 := by
    have h1 := HP.out.2.2.1
    have h2 : decide (quo m (Nat.gcd m.natAbs n.natAbs) < 0) = true := HP.out.2.2.2.symm
    have h3 := of_decide_eq_true h2
    omega
  have IZ := Lib.hid (fun W => isZero_no ph pl hz W)
  clear hz
  clear hq hQ hqh hql OV2
  obtain ⟨p, hp⟩ : ∃ p, p = quo m (Nat.gcd m.natAbs n.natAbs) := ⟨_, rfl⟩
  obtain ⟨q, hq⟩ : ∃ q, q = quo n (Nat.gcd m.natAbs n.natAbs) := ⟨_, rfl⟩
  rw [← hp] at NU1 Y1
  rw [← hq] at Y2
  have HPQ := Lib.hid (And.intro hp hq)
  clear hp hq HP
  go_wp2_with fail
  refine (IZ.out _).mono ?_
  rintro e w4 ⟨rfl, hn⟩
  have A4 := Lib.hid (hn.row (((A3.out.alloc (.cells #[.int .u64 (qh : Int), .int .u64 (ql : Int)] 159)).alloc (.cells #[.int .u64 (q2h : Int), .int .u64 (q2l : Int)] 159))))
  have B4 := Lib.hid (hn.row (((B3.out.alloc (.cells #[.int .u64 (qh : Int), .int .u64 (ql : Int)] 159)).alloc (.cells #[.int .u64 (q2h : Int), .int .u64 (q2l : Int)] 159))))
  have R4 := Lib.hid (hn.row (((R3.out.alloc (.cells #[.int .u64 (qh : Int), .int .u64 (ql : Int)] 159)).alloc (.cells #[.int .u64 (q2h : Int), .int .u64 (q2l : Int)] 159))))
  have G4 := Lib.hid (hn.row (((G3.out.alloc (.cells #[.int .u64 (qh : Int), .int .u64 (ql : Int)] 159)).alloc (.cells #[.int .u64 (q2h : Int), .int .u64 (q2l : Int)] 159))))
  have P4 := Lib.hid (hn.row (((P3.out.alloc (.cells #[.int .u64 (qh : Int), .int .u64 (ql : Int)] 159)).alloc (.cells #[.int .u64 (q2h : Int), .int .u64 (q2l : Int)] 159))))
  have Q4 := Lib.hid (hn.row (((Row.new_at w3 159 [.int .u64 (qh : Int), .int .u64 (ql : Int)] (g := w3.heap.size) (by simp)).alloc (.cells #[.int .u64 (q2h : Int), .int .u64 (q2l : Int)] 159))))
  have N4 := Lib.hid ((((N3.out.alloc (.cells #[.int .u64 (qh : Int), .int .u64 (ql : Int)] 159)).alloc (.cells #[.int .u64 (q2h : Int), .int .u64 (q2l : Int)] 159))).trans hn)
  clear hn cA3_0 cA3_1 cA3_2 lA3 cB3_0 cB3_1 cB3_2 lB3 cR3_0 cR3_1 lR3 cG3_0 cG3_1 lG3 cP3_0 cP3_1 lP3 A3 B3 R3 G3 P3 N3
  generalize w3.heap.size = z3 at *
  have cA4_0 : w4.cell? ⟨w.heap.size, 0, none⟩ = some (.int .u64 (ah : Int)) := A4.out.cell 0
  have cA4_1 : w4.cell? ⟨w.heap.size, 1, none⟩ = some (.int .u64 (al : Int)) := A4.out.cell 1
  have cA4_2 : w4.cell? ⟨w.heap.size, 2, none⟩ = some (.bool true) := A4.out.cell 2
  have lA4 : w.heap.size < w4.heap.size := A4.out.lt
  have cB4_0 : w4.cell? ⟨w.heap.size + 1, 0, none⟩ = some (.int .u64 (bh : Int)) := B4.out.cell 0
  have cB4_1 : w4.cell? ⟨w.heap.size + 1, 1, none⟩ = some (.int .u64 (bl : Int)) := B4.out.cell 1
  have cB4_2 : w4.cell? ⟨w.heap.size + 1, 2, none⟩ = some (.bool false) := B4.out.cell 2
  have lB4 : w.heap.size + 1 < w4.heap.size := B4.out.lt
  have cR4_0 : w4.cell? ⟨w.heap.size + 1 + 1, 0, none⟩ = some (.int .i64 0) := R4.out.cell 0
  have cR4_1 : w4.cell? ⟨w.heap.size + 1 + 1, 1, none⟩ = some (.int .i64 0) := R4.out.cell 1
  have lR4 : w.heap.size + 1 + 1 < w4.heap.size := R4.out.lt
  have cG4_0 : w4.cell? ⟨z1, 0, none⟩ = some (.int .u64 (gh : Int)) := G4.out.cell 0
  have cG4_1 : w4.cell? ⟨z1, 1, none⟩ = some (.int .u64 (gl : Int)) := G4.out.cell 1
  have lG4 : z1 < w4.heap.size := G4.out.lt
  have cP4_0 : w4.cell? ⟨z2, 0, none⟩ = some (.int .u64 (ph : Int)) := P4.out.cell 0
  have cP4_1 : w4.cell? ⟨z2, 1, none⟩ = some (.int .u64 (pl : Int)) := P4.out.cell 1
  have lP4 : z2 < w4.heap.size := P4.out.lt
  have cQ4_0 : w4.cell? ⟨z3, 0, none⟩ = some (.int .u64 (qh : Int)) := Q4.out.cell 0
  have cQ4_1 : w4.cell? ⟨z3, 1, none⟩ = some (.int .u64 (ql : Int)) := Q4.out.cell 1
  have lQ4 : z3 < w4.heap.size := Q4.out.lt
  clear IZ
  go_wp2_with fail
  refine (NU1.out _).mono ?_
  rintro e w5 ⟨rfl, hn⟩
  have A5 := Lib.hid (hn.row (A4.out))
  have B5 := Lib.hid (hn.row (B4.out))
  have R5 := Lib.hid (hn.row (R4.out))
  have G5 := Lib.hid (hn.row (G4.out))
  have P5 := Lib.hid (hn.row (P4.out))
  have Q5 := Lib.hid (hn.row (Q4.out))
  have N5 := Lib.hid ((N4.out).trans hn)
  clear hn cA4_0 cA4_1 cA4_2 lA4 cB4_0 cB4_1 cB4_2 lB4 cR4_0 cR4_1 lR4 cG4_0 cG4_1 lG4 cP4_0 cP4_1 lP4 cQ4_0 cQ4_1 lQ4 A4 B4 R4 G4 P4 Q4 N4
  have cA5_0 : w5.cell? ⟨w.heap.size, 0, none⟩ = some (.int .u64 (ah : Int)) := A5.out.cell 0
  have cA5_1 : w5.cell? ⟨w.heap.size, 1, none⟩ = some (.int .u64 (al : Int)) := A5.out.cell 1
  have cA5_2 : w5.cell? ⟨w.heap.size, 2, none⟩ = some (.bool true) := A5.out.cell 2
  have lA5 : w.heap.size < w5.heap.size := A5.out.lt
  have cB5_0 : w5.cell? ⟨w.heap.size + 1, 0, none⟩ = some (.int .u64 (bh : Int)) := B5.out.cell 0
  have cB5_1 : w5.cell? ⟨w.heap.size + 1, 1, none⟩ = some (.int .u64 (bl : Int)) := B5.out.cell 1
  have cB5_2 : w5.cell? ⟨w.heap.size + 1, 2, none⟩ = some (.bool false) := B5.out.cell 2
  have lB5 : w.heap.size + 1 < w5.heap.size := B5.out.lt
  have cR5_0 : w5.cell? ⟨w.heap.size + 1 + 1, 0, none⟩ = some (.int .i64 0) := R5.out.cell 0
  have cR5_1 : w5.cell? ⟨w.heap.size + 1 + 1, 1, none⟩ = some (.int .i64 0) := R5.out.cell 1
  have lR5 : w.heap.size + 1 + 1 < w5.heap.size := R5.out.lt
  have cG5_0 : w5.cell? ⟨z1, 0, none⟩ = some (.int .u64 (gh : Int)) := G5.out.cell 0
  have cG5_1 : w5.cell? ⟨z1, 1, none⟩ = some (.int .u64 (gl : Int)) := G5.out.cell 1
  have lG5 : z1 < w5.heap.size := G5.out.lt
  have cP5_0 : w5.cell? ⟨z2, 0, none⟩ = some (.int .u64 (ph : Int)) := P5.out.cell 0
  have cP5_1 : w5.cell? ⟨z2, 1, none⟩ = some (.int .u64 (pl : Int)) := P5.out.cell 1
  have lP5 : z2 < w5.heap.size := P5.out.lt
  have cQ5_0 : w5.cell? ⟨z3, 0, none⟩ = some (.int .u64 (qh : Int)) := Q5.out.cell 0
  have cQ5_1 : w5.cell? ⟨z3, 1, none⟩ = some (.int .u64 (ql : Int)) := Q5.out.cell 1
  have lQ5 : z3 < w5.heap.size := Q5.out.lt
  go_wp2_with fail
  refine (NU2.out _).mono ?_
  rintro e w6 ⟨rfl, hn⟩
  have A6 := Lib.hid (hn.row (A5.out))
  have B6 := Lib.hid (hn.row (B5.out))
  have R6 := Lib.hid (hn.row (R5.out))
  have G6 := Lib.hid (hn.row (G5.out))
  have P6 := Lib.hid (hn.row (P5.out))
  have Q6 := Lib.hid (hn.row (Q5.out))
  have N6 := Lib.hid ((N5.out).trans hn)
  clear hn cA5_0 cA5_1 cA5_2 lA5 cB5_0 cB5_1 cB5_2 lB5 cR5_0 cR5_1 lR5 cG5_0 cG5_1 lG5 cP5_0 cP5_1 lP5 cQ5_0 cQ5_1 lQ5 A5 B5 R5 G5 P5 Q5 N5
  have cA6_0 : w6.cell? ⟨w.heap.size, 0, none⟩ = some (.int .u64 (ah : Int)) := A6.out.cell 0
  have cA6_1 : w6.cell? ⟨w.heap.size, 1, none⟩ = some (.int .u64 (al : Int)) := A6.out.cell 1
  have cA6_2 : w6.cell? ⟨w.heap.size, 2, none⟩ = some (.bool true) := A6.out.cell 2
  have lA6 : w.heap.size < w6.heap.size := A6.out.lt
  have cB6_0 : w6.cell? ⟨w.heap.size + 1, 0, none⟩ = some (.int .u64 (bh : Int)) := B6.out.cell 0
  have cB6_1 : w6.cell? ⟨w.heap.size + 1, 1, none⟩ = some (.int .u64 (bl : Int)) := B6.out.cell 1
  have cB6_2 : w6.cell? ⟨w.heap.size + 1, 2, none⟩ = some (.bool false) := B6.out.cell 2
  have lB6 : w.heap.size + 1 < w6.heap.size := B6.out.lt
  have cR6_0 : w6.cell? ⟨w.heap.size + 1 + 1, 0, none⟩ = some (.int .i64 0) := R6.out.cell 0
  have cR6_1 : w6.cell? ⟨w.heap.size + 1 + 1, 1, none⟩ = some (.int .i64 0) := R6.out.cell 1
  have lR6 : w.heap.size + 1 + 1 < w6.heap.size := R6.out.lt
  have cG6_0 : w6.cell? ⟨z1, 0, none⟩ = some (.int .u64 (gh : Int)) := G6.out.cell 0
  have cG6_1 : w6.cell? ⟨z1, 1, none⟩ = some (.int .u64 (gl : Int)) := G6.out.cell 1
  have lG6 : z1 < w6.heap.size := G6.out.lt
  have cP6_0 : w6.cell? ⟨z2, 0, none⟩ = some (.int .u64 (ph : Int)) := P6.out.cell 0
  have cP6_1 : w6.cell? ⟨z2, 1, none⟩ = some (.int .u64 (pl : Int)) := P6.out.cell 1
  have lP6 : z2 < w6.heap.size := P6.out.lt
  have cQ6_0 : w6.cell? ⟨z3, 0, none⟩ = some (.int .u64 (qh : Int)) := Q6.out.cell 0
  have cQ6_1 : w6.cell? ⟨z3, 1, none⟩ = some (.int .u64 (ql : Int)) := Q6.out.cell 1
  have lQ6 : z3 < w6.heap.size := Q6.out.lt
  have fR6_0 : w6.frozen? ⟨w.heap.size + 1 + 1, 0, none⟩ = false := R6.out.free 0
  have fR6_1 : w6.frozen? ⟨w.heap.size + 1 + 1, 1, none⟩ = false := R6.out.free 1
  have R9 := Lib.hid ((R6.out.set 0 (.int .i64 0)).set 1 (.int .i64 0))
  have N9 := Lib.hid (new_set (new_set N6.out (w.heap.size + 1 + 1) (by omega) 0 (.int .i64 0)) (w.heap.size + 1 + 1) (by omega) 1 (.int .i64 0))
  clear NU1 NU2 A6 B6 G6 P6 Q6
  go_wp2_with fail
  generalize (w6.setCell ⟨w.heap.size + 1 + 1, 0, none⟩ (.int .i64 0)).setCell ⟨w.heap.size + 1 + 1, 1, none⟩ (.int .i64 0) = w9 at *
  have r0 : w9.cell? ⟨w.heap.size + 1 + 1, 0, none⟩ = some (.int .i64 0) := R9.out.cell 0
  have r1 : w9.cell? ⟨w.heap.size + 1 + 1, 1, none⟩ = some (.int .i64 0) := R9.out.cell 1
  exact bodyPost_ret (v := .tuple #[.agg #[.int .i64 0, .int .i64 0], .int .i64 20]) (by simp [results, Try.results115, go_sem, r0, r1]) rfl
    ⟨N9.out, by rw [← HPQ.out.1, ← HPQ.out.2]; exact .inr ⟨fun h => Y2.out h.2, rfl⟩⟩
set_option maxRecDepth 100000 in
set_option maxHeartbeats 1000000 in
theorem made_tny (ah al bh bl : Nat) (m n : Int) (ha : IsW ah al true m) (hb : IsW bh bl false n) (hn0 : 0 < n) (hs : two bh bl ≤ 170141183460469231731687303715884105728)
    (y1 : ¬ In64 (quo m (Nat.gcd m.natAbs n.natAbs))) (y2 : In64 (quo n (Nat.gcd m.natAbs n.natAbs))) (w : World) :
    Calls Try.prog 115 #[.agg #[.int .u64 ah, .int .u64 al, .bool true], .agg #[.int .u64 bh, .int .u64 bl, .bool false]] w (MadeRes m n w) := by
  have hgp : 0 < Nat.gcd m.natAbs n.natAbs := Nat.gcd_pos_of_pos_right _ (by omega)
  have hgl : Nat.gcd m.natAbs n.natAbs ≤ 170141183460469231731687303715884105728 := Nat.le_trans (Nat.le_of_dvd (by omega) (Nat.gcd_dvd_right _ _)) (by rw [← hb.2.2.1]; exact hs)
  have CO := Lib.hid (fun W => common_any ah al bh bl ha.1 ha.2.1 hb.1 hb.2.1 hs W)
  have GP := Lib.hid (And.intro hgp hgl)
  have HA := Lib.hid ha
  have HB := Lib.hid hb
  have HN0 := Lib.hid hn0
  have Y1 := Lib.hid y1
  have Y2 := Lib.hid y2
  clear hgp hgl ha hb hn0 hs y1 y2
  go_enter Try.func115, Try.ntmps115
  go_wp2_with fail
  refine (CO.out _).mono ?_
  rintro e w1 ⟨gh, gl, hgh, hgl, hg, rfl, hn⟩
  have hg : two gh gl = Nat.gcd m.natAbs n.natAbs := by rw [hg, HA.out.2.2.1, HB.out.2.2.1]
  have hg1 : 0 < two gh gl := by rw [hg]; exact GP.out.1
  have hg2 : two gh gl ≤ 170141183460469231731687303715884105728 := by rw [hg]; exact GP.out.2
  have OV1 := Lib.hid (fun W => over_any ah al gh gl HA.out.1 HA.out.2.1 hgh hgl hg1 hg2 W)
  have OV2 := Lib.hid (fun W => over_any bh bl gh gl HB.out.1 HB.out.2.1 hgh hgl hg1 hg2 W)
  have HG := Lib.hid hg
  clear hg hg1 hg2 hgh hgl CO
  have A1 := Lib.hid (hn.row ((((Row.new_at w 161 [.int .u64 (ah : Int), .int .u64 (al : Int), .bool true] (g := w.heap.size) (by simp)).alloc (.cells #[.int .u64 (bh : Int), .int .u64 (bl : Int), .bool false] 161)).alloc (.cells #[.int .i64 0, .int .i64 0] 75))))
  have B1 := Lib.hid (hn.row (((Row.new_at (w.alloc (.cells #[.int .u64 (ah : Int), .int .u64 (al : Int), .bool true] 161)) 161 [.int .u64 (bh : Int), .int .u64 (bl : Int), .bool false] (g := w.heap.size + 1) (by simp)).alloc (.cells #[.int .i64 0, .int .i64 0] 75))))
  have R1 := Lib.hid (hn.row ((Row.new_at ((w.alloc (.cells #[.int .u64 (ah : Int), .int .u64 (al : Int), .bool true] 161)).alloc (.cells #[.int .u64 (bh : Int), .int .u64 (bl : Int), .bool false] 161)) 75 [.int .i64 0, .int .i64 0] (g := w.heap.size + 1 + 1) (by simp))))
  have N1 := Lib.hid ((((((New.refl w).alloc (.cells #[.int .u64 (ah : Int), .int .u64 (al : Int), .bool true] 161)).alloc (.cells #[.int .u64 (bh : Int), .int .u64 (bl : Int), .bool false] 161)).alloc (.cells #[.int .i64 0, .int .i64 0] 75))).trans hn)
  clear hn
  have cA1_0 : w1.cell? ⟨w.heap.size, 0, none⟩ = some (.int .u64 (ah : Int)) := A1.out.cell 0
  have cA1_1 : w1.cell? ⟨w.heap.size, 1, none⟩ = some (.int .u64 (al : Int)) := A1.out.cell 1
  have cA1_2 : w1.cell? ⟨w.heap.size, 2, none⟩ = some (.bool true) := A1.out.cell 2
  have lA1 : w.heap.size < w1.heap.size := A1.out.lt
  have cB1_0 : w1.cell? ⟨w.heap.size + 1, 0, none⟩ = some (.int .u64 (bh : Int)) := B1.out.cell 0
  have cB1_1 : w1.cell? ⟨w.heap.size + 1, 1, none⟩ = some (.int .u64 (bl : Int)) := B1.out.cell 1
  have cB1_2 : w1.cell? ⟨w.heap.size + 1, 2, none⟩ = some (.bool false) := B1.out.cell 2
  have lB1 : w.heap.size + 1 < w1.heap.size := B1.out.lt
  have cR1_0 : w1.cell? ⟨w.heap.size + 1 + 1, 0, none⟩ = some (.int .i64 0) := R1.out.cell 0
  have cR1_1 : w1.cell? ⟨w.heap.size + 1 + 1, 1, none⟩ = some (.int .i64 0) := R1.out.cell 1
  have lR1 : w.heap.size + 1 + 1 < w1.heap.size := R1.out.lt
  go_wp2_with fail
  refine (OV1.out _).mono ?_
  rintro e w2 ⟨ph, pl, p2h, p2l, hph, hpl, _, _, hp, _, rfl, hn⟩
  have A2 := Lib.hid (hn.row ((A1.out.alloc (.cells #[.int .u64 (gh : Int), .int .u64 (gl : Int)] 159))))
  have B2 := Lib.hid (hn.row ((B1.out.alloc (.cells #[.int .u64 (gh : Int), .int .u64 (gl : Int)] 159))))
  have R2 := Lib.hid (hn.row ((R1.out.alloc (.cells #[.int .u64 (gh : Int), .int .u64 (gl : Int)] 159))))
  have G2 := Lib.hid (hn.row ((Row.new_at w1 159 [.int .u64 (gh : Int), .int .u64 (gl : Int)] (g := w1.heap.size) (by simp))))
  have N2 := Lib.hid (((N1.out.alloc (.cells #[.int .u64 (gh : Int), .int .u64 (gl : Int)] 159))).trans hn)
  clear hn cA1_0 cA1_1 cA1_2 lA1 cB1_0 cB1_1 cB1_2 lB1 cR1_0 cR1_1 lR1 A1 B1 R1 N1
  generalize w1.heap.size = z1 at *
  have cA2_0 : w2.cell? ⟨w.heap.size, 0, none⟩ = some (.int .u64 (ah : Int)) := A2.out.cell 0
  have cA2_1 : w2.cell? ⟨w.heap.size, 1, none⟩ = some (.int .u64 (al : Int)) := A2.out.cell 1
  have cA2_2 : w2.cell? ⟨w.heap.size, 2, none⟩ = some (.bool true) := A2.out.cell 2
  have lA2 : w.heap.size < w2.heap.size := A2.out.lt
  have cB2_0 : w2.cell? ⟨w.heap.size + 1, 0, none⟩ = some (.int .u64 (bh : Int)) := B2.out.cell 0
  have cB2_1 : w2.cell? ⟨w.heap.size + 1, 1, none⟩ = some (.int .u64 (bl : Int)) := B2.out.cell 1
  have cB2_2 : w2.cell? ⟨w.heap.size + 1, 2, none⟩ = some (.bool false) := B2.out.cell 2
  have lB2 : w.heap.size + 1 < w2.heap.size := B2.out.lt
  have cR2_0 : w2.cell? ⟨w.heap.size + 1 + 1, 0, none⟩ = some (.int .i64 0) := R2.out.cell 0
  have cR2_1 : w2.cell? ⟨w.heap.size + 1 + 1, 1, none⟩ = some (.int .i64 0) := R2.out.cell 1
  have lR2 : w.heap.size + 1 + 1 < w2.heap.size := R2.out.lt
  have cG2_0 : w2.cell? ⟨z1, 0, none⟩ = some (.int .u64 (gh : Int)) := G2.out.cell 0
  have cG2_1 : w2.cell? ⟨z1, 1, none⟩ = some (.int .u64 (gl : Int)) := G2.out.cell 1
  have lG2 : z1 < w2.heap.size := G2.out.lt
  have hp : two ph pl = m.natAbs / Nat.gcd m.natAbs n.natAbs := by rw [hp, HG.out, HA.out.2.2.1]
  have hP : IsW ph pl true (quo m (Nat.gcd m.natAbs n.natAbs)) := quo_isW GP.out.1 (Nat.gcd_dvd_left _ _) hph hpl hp HA.out.2.2.2
  have HP := Lib.hid hP
  clear hp hP hph hpl OV1
  go_wp2_with fail
  refine (OV2.out _).mono ?_
  rintro e w3 ⟨qh, ql, q2h, q2l, hqh, hql, _, _, hq, _, rfl, hn⟩
  have A3 := Lib.hid (hn.row (((A2.out.alloc (.cells #[.int .u64 (ph : Int), .int .u64 (pl : Int)] 159)).alloc (.cells #[.int .u64 (p2h : Int), .int .u64 (p2l : Int)] 159))))
  have B3 := Lib.hid (hn.row (((B2.out.alloc (.cells #[.int .u64 (ph : Int), .int .u64 (pl : Int)] 159)).alloc (.cells #[.int .u64 (p2h : Int), .int .u64 (p2l : Int)] 159))))
  have R3 := Lib.hid (hn.row (((R2.out.alloc (.cells #[.int .u64 (ph : Int), .int .u64 (pl : Int)] 159)).alloc (.cells #[.int .u64 (p2h : Int), .int .u64 (p2l : Int)] 159))))
  have G3 := Lib.hid (hn.row (((G2.out.alloc (.cells #[.int .u64 (ph : Int), .int .u64 (pl : Int)] 159)).alloc (.cells #[.int .u64 (p2h : Int), .int .u64 (p2l : Int)] 159))))
  have P3 := Lib.hid (hn.row (((Row.new_at w2 159 [.int .u64 (ph : Int), .int .u64 (pl : Int)] (g := w2.heap.size) (by simp)).alloc (.cells #[.int .u64 (p2h : Int), .int .u64 (p2l : Int)] 159))))
  have N3 := Lib.hid ((((N2.out.alloc (.cells #[.int .u64 (ph : Int), .int .u64 (pl : Int)] 159)).alloc (.cells #[.int .u64 (p2h : Int), .int .u64 (p2l : Int)] 159))).trans hn)
  clear hn cA2_0 cA2_1 cA2_2 lA2 cB2_0 cB2_1 cB2_2 lB2 cR2_0 cR2_1 lR2 cG2_0 cG2_1 lG2 A2 B2 R2 G2 N2
  generalize w2.heap.size = z2 at *
  have cA3_0 : w3.cell? ⟨w.heap.size, 0, none⟩ = some (.int .u64 (ah : Int)) := A3.out.cell 0
  have cA3_1 : w3.cell? ⟨w.heap.size, 1, none⟩ = some (.int .u64 (al : Int)) := A3.out.cell 1
  have cA3_2 : w3.cell? ⟨w.heap.size, 2, none⟩ = some (.bool true) := A3.out.cell 2
  have lA3 : w.heap.size < w3.heap.size := A3.out.lt
  have cB3_0 : w3.cell? ⟨w.heap.size + 1, 0, none⟩ = some (.int .u64 (bh : Int)) := B3.out.cell 0
  have cB3_1 : w3.cell? ⟨w.heap.size + 1, 1, none⟩ = some (.int .u64 (bl : Int)) := B3.out.cell 1
  have cB3_2 : w3.cell? ⟨w.heap.size + 1, 2, none⟩ = some (.bool false) := B3.out.cell 2
  have lB3 : w.heap.size + 1 < w3.heap.size := B3.out.lt
  have cR3_0 : w3.cell? ⟨w.heap.size + 1 + 1, 0, none⟩ = some (.int .i64 0) := R3.out.cell 0
  have cR3_1 : w3.cell? ⟨w.heap.size + 1 + 1, 1, none⟩ = some (.int .i64 0) := R3.out.cell 1
  have lR3 : w.heap.size + 1 + 1 < w3.heap.size := R3.out.lt
  have cG3_0 : w3.cell? ⟨z1, 0, none⟩ = some (.int .u64 (gh : Int)) := G3.out.cell 0
  have cG3_1 : w3.cell? ⟨z1, 1, none⟩ = some (.int .u64 (gl : Int)) := G3.out.cell 1
  have lG3 : z1 < w3.heap.size := G3.out.lt
  have cP3_0 : w3.cell? ⟨z2, 0, none⟩ = some (.int .u64 (ph : Int)) := P3.out.cell 0
  have cP3_1 : w3.cell? ⟨z2, 1, none⟩ = some (.int .u64 (pl : Int)) := P3.out.cell 1
  have lP3 : z2 < w3.heap.size := P3.out.lt
  have hq : two qh ql = n.natAbs / Nat.gcd m.natAbs n.natAbs := by rw [hq, HG.out, HB.out.2.2.1]
  have hQ : IsW qh ql false (quo n (Nat.gcd m.natAbs n.natAbs)) := quo_isW GP.out.1 (Nat.gcd_dvd_right _ _) hqh hql hq HB.out.2.2.2
  have NU1 := Lib.hid (fun W => number_no ph pl true _ HP.out Y1.out W)
  have NU2 := Lib.hid (fun W => number_yes qh ql false _ hQ Y2.out W)
  have hz : two ph pl ≠ 0 := by
    have h1 := HP.out.2.2.1
    have h2 : decide (quo m (Nat.gcd m.natAbs n.natAbs) < 0) = true := HP.out.2.2.2.symm
    have h3 := of_decide_eq_true h2
    omega
  have IZ := Lib.hid (fun W => isZero_no ph pl hz W)
  clear hz
  clear hq hQ hqh hql OV2
  obtain ⟨p, hp⟩ : ∃ p, p = quo m (Nat.gcd m.natAbs n.natAbs) := ⟨_, rfl⟩
  obtain ⟨q, hq⟩ : ∃ q, q = quo n (Nat.gcd m.natAbs n.natAbs) := ⟨_, rfl⟩
  rw [← hp] at Y1
  rw [← hq] at NU2 Y2
  have HPQ := Lib.hid (And.intro hp hq)
  clear hp hq HP
  go_wp2_with fail
  refine (IZ.out _).mono ?_
  rintro e w4 ⟨rfl, hn⟩
  have A4 := Lib.hid (hn.row (((A3.out.alloc (.cells #[.int .u64 (qh : Int), .int .u64 (ql : Int)] 159)).alloc (.cells #[.int .u64 (q2h : Int), .int .u64 (q2l : Int)] 159))))
  have B4 := Lib.hid (hn.row (((B3.out.alloc (.cells #[.int .u64 (qh : Int), .int .u64 (ql : Int)] 159)).alloc (.cells #[.int .u64 (q2h : Int), .int .u64 (q2l : Int)] 159))))
  have R4 := Lib.hid (hn.row (((R3.out.alloc (.cells #[.int .u64 (qh : Int), .int .u64 (ql : Int)] 159)).alloc (.cells #[.int .u64 (q2h : Int), .int .u64 (q2l : Int)] 159))))
  have G4 := Lib.hid (hn.row (((G3.out.alloc (.cells #[.int .u64 (qh : Int), .int .u64 (ql : Int)] 159)).alloc (.cells #[.int .u64 (q2h : Int), .int .u64 (q2l : Int)] 159))))
  have P4 := Lib.hid (hn.row (((P3.out.alloc (.cells #[.int .u64 (qh : Int), .int .u64 (ql : Int)] 159)).alloc (.cells #[.int .u64 (q2h : Int), .int .u64 (q2l : Int)] 159))))
  have Q4 := Lib.hid (hn.row (((Row.new_at w3 159 [.int .u64 (qh : Int), .int .u64 (ql : Int)] (g := w3.heap.size) (by simp)).alloc (.cells #[.int .u64 (q2h : Int), .int .u64 (q2l : Int)] 159))))
  have N4 := Lib.hid ((((N3.out.alloc (.cells #[.int .u64 (qh : Int), .int .u64 (ql : Int)] 159)).alloc (.cells #[.int .u64 (q2h : Int), .int .u64 (q2l : Int)] 159))).trans hn)
  clear hn cA3_0 cA3_1 cA3_2 lA3 cB3_0 cB3_1 cB3_2 lB3 cR3_0 cR3_1 lR3 cG3_0 cG3_1 lG3 cP3_0 cP3_1 lP3 A3 B3 R3 G3 P3 N3
  generalize w3.heap.size = z3 at *
  have cA4_0 : w4.cell? ⟨w.heap.size, 0, none⟩ = some (.int .u64 (ah : Int)) := A4.out.cell 0
  have cA4_1 : w4.cell? ⟨w.heap.size, 1, none⟩ = some (.int .u64 (al : Int)) := A4.out.cell 1
  have cA4_2 : w4.cell? ⟨w.heap.size, 2, none⟩ = some (.bool true) := A4.out.cell 2
  have lA4 : w.heap.size < w4.heap.size := A4.out.lt
  have cB4_0 : w4.cell? ⟨w.heap.size + 1, 0, none⟩ = some (.int .u64 (bh : Int)) := B4.out.cell 0
  have cB4_1 : w4.cell? ⟨w.heap.size + 1, 1, none⟩ = some (.int .u64 (bl : Int)) := B4.out.cell 1
  have cB4_2 : w4.cell? ⟨w.heap.size + 1, 2, none⟩ = some (.bool false) := B4.out.cell 2
  have lB4 : w.heap.size + 1 < w4.heap.size := B4.out.lt
  have cR4_0 : w4.cell? ⟨w.heap.size + 1 + 1, 0, none⟩ = some (.int .i64 0) := R4.out.cell 0
  have cR4_1 : w4.cell? ⟨w.heap.size + 1 + 1, 1, none⟩ = some (.int .i64 0) := R4.out.cell 1
  have lR4 : w.heap.size + 1 + 1 < w4.heap.size := R4.out.lt
  have cG4_0 : w4.cell? ⟨z1, 0, none⟩ = some (.int .u64 (gh : Int)) := G4.out.cell 0
  have cG4_1 : w4.cell? ⟨z1, 1, none⟩ = some (.int .u64 (gl : Int)) := G4.out.cell 1
  have lG4 : z1 < w4.heap.size := G4.out.lt
  have cP4_0 : w4.cell? ⟨z2, 0, none⟩ = some (.int .u64 (ph : Int)) := P4.out.cell 0
  have cP4_1 : w4.cell? ⟨z2, 1, none⟩ = some (.int .u64 (pl : Int)) := P4.out.cell 1
  have lP4 : z2 < w4.heap.size := P4.out.lt
  have cQ4_0 : w4.cell? ⟨z3, 0, none⟩ = some (.int .u64 (qh : Int)) := Q4.out.cell 0
  have cQ4_1 : w4.cell? ⟨z3, 1, none⟩ = some (.int .u64 (ql : Int)) := Q4.out.cell 1
  have lQ4 : z3 < w4.heap.size := Q4.out.lt
  clear IZ
  go_wp2_with fail
  refine (NU1.out _).mono ?_
  rintro e w5 ⟨rfl, hn⟩
  have A5 := Lib.hid (hn.row (A4.out))
  have B5 := Lib.hid (hn.row (B4.out))
  have R5 := Lib.hid (hn.row (R4.out))
  have G5 := Lib.hid (hn.row (G4.out))
  have P5 := Lib.hid (hn.row (P4.out))
  have Q5 := Lib.hid (hn.row (Q4.out))
  have N5 := Lib.hid ((N4.out).trans hn)
  clear hn cA4_0 cA4_1 cA4_2 lA4 cB4_0 cB4_1 cB4_2 lB4 cR4_0 cR4_1 lR4 cG4_0 cG4_1 lG4 cP4_0 cP4_1 lP4 cQ4_0 cQ4_1 lQ4 A4 B4 R4 G4 P4 Q4 N4
  have cA5_0 : w5.cell? ⟨w.heap.size, 0, none⟩ = some (.int .u64 (ah : Int)) := A5.out.cell 0
  have cA5_1 : w5.cell? ⟨w.heap.size, 1, none⟩ = some (.int .u64 (al : Int)) := A5.out.cell 1
  have cA5_2 : w5.cell? ⟨w.heap.size, 2, none⟩ = some (.bool true) := A5.out.cell 2
  have lA5 : w.heap.size < w5.heap.size := A5.out.lt
  have cB5_0 : w5.cell? ⟨w.heap.size + 1, 0, none⟩ = some (.int .u64 (bh : Int)) := B5.out.cell 0
  have cB5_1 : w5.cell? ⟨w.heap.size + 1, 1, none⟩ = some (.int .u64 (bl : Int)) := B5.out.cell 1
  have cB5_2 : w5.cell? ⟨w.heap.size + 1, 2, none⟩ = some (.bool false) := B5.out.cell 2
  have lB5 : w.heap.size + 1 < w5.heap.size := B5.out.lt
  have cR5_0 : w5.cell? ⟨w.heap.size + 1 + 1, 0, none⟩ = some (.int .i64 0) := R5.out.cell 0
  have cR5_1 : w5.cell? ⟨w.heap.size + 1 + 1, 1, none⟩ = some (.int .i64 0) := R5.out.cell 1
  have lR5 : w.heap.size + 1 + 1 < w5.heap.size := R5.out.lt
  have cG5_0 : w5.cell? ⟨z1, 0, none⟩ = some (.int .u64 (gh : Int)) := G5.out.cell 0
  have cG5_1 : w5.cell? ⟨z1, 1, none⟩ = some (.int .u64 (gl : Int)) := G5.out.cell 1
  have lG5 : z1 < w5.heap.size := G5.out.lt
  have cP5_0 : w5.cell? ⟨z2, 0, none⟩ = some (.int .u64 (ph : Int)) := P5.out.cell 0
  have cP5_1 : w5.cell? ⟨z2, 1, none⟩ = some (.int .u64 (pl : Int)) := P5.out.cell 1
  have lP5 : z2 < w5.heap.size := P5.out.lt
  have cQ5_0 : w5.cell? ⟨z3, 0, none⟩ = some (.int .u64 (qh : Int)) := Q5.out.cell 0
  have cQ5_1 : w5.cell? ⟨z3, 1, none⟩ = some (.int .u64 (ql : Int)) := Q5.out.cell 1
  have lQ5 : z3 < w5.heap.size := Q5.out.lt
  go_wp2_with fail
  refine (NU2.out _).mono ?_
  rintro e w6 ⟨rfl, hn⟩
  have A6 := Lib.hid (hn.row (A5.out))
  have B6 := Lib.hid (hn.row (B5.out))
  have R6 := Lib.hid (hn.row (R5.out))
  have G6 := Lib.hid (hn.row (G5.out))
  have P6 := Lib.hid (hn.row (P5.out))
  have Q6 := Lib.hid (hn.row (Q5.out))
  have N6 := Lib.hid ((N5.out).trans hn)
  clear hn cA5_0 cA5_1 cA5_2 lA5 cB5_0 cB5_1 cB5_2 lB5 cR5_0 cR5_1 lR5 cG5_0 cG5_1 lG5 cP5_0 cP5_1 lP5 cQ5_0 cQ5_1 lQ5 A5 B5 R5 G5 P5 Q5 N5
  have cA6_0 : w6.cell? ⟨w.heap.size, 0, none⟩ = some (.int .u64 (ah : Int)) := A6.out.cell 0
  have cA6_1 : w6.cell? ⟨w.heap.size, 1, none⟩ = some (.int .u64 (al : Int)) := A6.out.cell 1
  have cA6_2 : w6.cell? ⟨w.heap.size, 2, none⟩ = some (.bool true) := A6.out.cell 2
  have lA6 : w.heap.size < w6.heap.size := A6.out.lt
  have cB6_0 : w6.cell? ⟨w.heap.size + 1, 0, none⟩ = some (.int .u64 (bh : Int)) := B6.out.cell 0
  have cB6_1 : w6.cell? ⟨w.heap.size + 1, 1, none⟩ = some (.int .u64 (bl : Int)) := B6.out.cell 1
  have cB6_2 : w6.cell? ⟨w.heap.size + 1, 2, none⟩ = some (.bool false) := B6.out.cell 2
  have lB6 : w.heap.size + 1 < w6.heap.size := B6.out.lt
  have cR6_0 : w6.cell? ⟨w.heap.size + 1 + 1, 0, none⟩ = some (.int .i64 0) := R6.out.cell 0
  have cR6_1 : w6.cell? ⟨w.heap.size + 1 + 1, 1, none⟩ = some (.int .i64 0) := R6.out.cell 1
  have lR6 : w.heap.size + 1 + 1 < w6.heap.size := R6.out.lt
  have cG6_0 : w6.cell? ⟨z1, 0, none⟩ = some (.int .u64 (gh : Int)) := G6.out.cell 0
  have cG6_1 : w6.cell? ⟨z1, 1, none⟩ = some (.int .u64 (gl : Int)) := G6.out.cell 1
  have lG6 : z1 < w6.heap.size := G6.out.lt
  have cP6_0 : w6.cell? ⟨z2, 0, none⟩ = some (.int .u64 (ph : Int)) := P6.out.cell 0
  have cP6_1 : w6.cell? ⟨z2, 1, none⟩ = some (.int .u64 (pl : Int)) := P6.out.cell 1
  have lP6 : z2 < w6.heap.size := P6.out.lt
  have cQ6_0 : w6.cell? ⟨z3, 0, none⟩ = some (.int .u64 (qh : Int)) := Q6.out.cell 0
  have cQ6_1 : w6.cell? ⟨z3, 1, none⟩ = some (.int .u64 (ql : Int)) := Q6.out.cell 1
  have lQ6 : z3 < w6.heap.size := Q6.out.lt
  have fR6_0 : w6.frozen? ⟨w.heap.size + 1 + 1, 0, none⟩ = false := R6.out.free 0
  have fR6_1 : w6.frozen? ⟨w.heap.size + 1 + 1, 1, none⟩ = false := R6.out.free 1
  have R9 := Lib.hid ((R6.out.set 0 (.int .i64 0)).set 1 (.int .i64 0))
  have N9 := Lib.hid (new_set (new_set N6.out (w.heap.size + 1 + 1) (by omega) 0 (.int .i64 0)) (w.heap.size + 1 + 1) (by omega) 1 (.int .i64 0))
  clear NU1 NU2 A6 B6 G6 P6 Q6
  go_wp2_with fail
  generalize (w6.setCell ⟨w.heap.size + 1 + 1, 0, none⟩ (.int .i64 0)).setCell ⟨w.heap.size + 1 + 1, 1, none⟩ (.int .i64 0) = w9 at *
  have r0 : w9.cell? ⟨w.heap.size + 1 + 1, 0, none⟩ = some (.int .i64 0) := R9.out.cell 0
  have r1 : w9.cell? ⟨w.heap.size + 1 + 1, 1, none⟩ = some (.int .i64 0) := R9.out.cell 1
  exact bodyPost_ret (v := .tuple #[.agg #[.int .i64 0, .int .i64 0], .int .i64 20]) (by simp [results, Try.results115, go_sem, r0, r1]) rfl
    ⟨N9.out, by rw [← HPQ.out.1, ← HPQ.out.2]; exact .inr ⟨fun h => Y1.out h.1, rfl⟩⟩
set_option maxRecDepth 100000 in
set_option maxHeartbeats 1000000 in
theorem made_tnn (ah al bh bl : Nat) (m n : Int) (ha : IsW ah al true m) (hb : IsW bh bl false n) (hn0 : 0 < n) (hs : two bh bl ≤ 170141183460469231731687303715884105728)
    (y1 : ¬ In64 (quo m (Nat.gcd m.natAbs n.natAbs))) (y2 : ¬ In64 (quo n (Nat.gcd m.natAbs n.natAbs))) (w : World) :
    Calls Try.prog 115 #[.agg #[.int .u64 ah, .int .u64 al, .bool true], .agg #[.int .u64 bh, .int .u64 bl, .bool false]] w (MadeRes m n w) := by
  have hgp : 0 < Nat.gcd m.natAbs n.natAbs := Nat.gcd_pos_of_pos_right _ (by omega)
  have hgl : Nat.gcd m.natAbs n.natAbs ≤ 170141183460469231731687303715884105728 := Nat.le_trans (Nat.le_of_dvd (by omega) (Nat.gcd_dvd_right _ _)) (by rw [← hb.2.2.1]; exact hs)
  have CO := Lib.hid (fun W => common_any ah al bh bl ha.1 ha.2.1 hb.1 hb.2.1 hs W)
  have GP := Lib.hid (And.intro hgp hgl)
  have HA := Lib.hid ha
  have HB := Lib.hid hb
  have HN0 := Lib.hid hn0
  have Y1 := Lib.hid y1
  have Y2 := Lib.hid y2
  clear hgp hgl ha hb hn0 hs y1 y2
  go_enter Try.func115, Try.ntmps115
  go_wp2_with fail
  refine (CO.out _).mono ?_
  rintro e w1 ⟨gh, gl, hgh, hgl, hg, rfl, hn⟩
  have hg : two gh gl = Nat.gcd m.natAbs n.natAbs := by rw [hg, HA.out.2.2.1, HB.out.2.2.1]
  have hg1 : 0 < two gh gl := by rw [hg]; exact GP.out.1
  have hg2 : two gh gl ≤ 170141183460469231731687303715884105728 := by rw [hg]; exact GP.out.2
  have OV1 := Lib.hid (fun W => over_any ah al gh gl HA.out.1 HA.out.2.1 hgh hgl hg1 hg2 W)
  have OV2 := Lib.hid (fun W => over_any bh bl gh gl HB.out.1 HB.out.2.1 hgh hgl hg1 hg2 W)
  have HG := Lib.hid hg
  clear hg hg1 hg2 hgh hgl CO
  have A1 := Lib.hid (hn.row ((((Row.new_at w 161 [.int .u64 (ah : Int), .int .u64 (al : Int), .bool true] (g := w.heap.size) (by simp)).alloc (.cells #[.int .u64 (bh : Int), .int .u64 (bl : Int), .bool false] 161)).alloc (.cells #[.int .i64 0, .int .i64 0] 75))))
  have B1 := Lib.hid (hn.row (((Row.new_at (w.alloc (.cells #[.int .u64 (ah : Int), .int .u64 (al : Int), .bool true] 161)) 161 [.int .u64 (bh : Int), .int .u64 (bl : Int), .bool false] (g := w.heap.size + 1) (by simp)).alloc (.cells #[.int .i64 0, .int .i64 0] 75))))
  have R1 := Lib.hid (hn.row ((Row.new_at ((w.alloc (.cells #[.int .u64 (ah : Int), .int .u64 (al : Int), .bool true] 161)).alloc (.cells #[.int .u64 (bh : Int), .int .u64 (bl : Int), .bool false] 161)) 75 [.int .i64 0, .int .i64 0] (g := w.heap.size + 1 + 1) (by simp))))
  have N1 := Lib.hid ((((((New.refl w).alloc (.cells #[.int .u64 (ah : Int), .int .u64 (al : Int), .bool true] 161)).alloc (.cells #[.int .u64 (bh : Int), .int .u64 (bl : Int), .bool false] 161)).alloc (.cells #[.int .i64 0, .int .i64 0] 75))).trans hn)
  clear hn
  have cA1_0 : w1.cell? ⟨w.heap.size, 0, none⟩ = some (.int .u64 (ah : Int)) := A1.out.cell 0
  have cA1_1 : w1.cell? ⟨w.heap.size, 1, none⟩ = some (.int .u64 (al : Int)) := A1.out.cell 1
  have cA1_2 : w1.cell? ⟨w.heap.size, 2, none⟩ = some (.bool true) := A1.out.cell 2
  have lA1 : w.heap.size < w1.heap.size := A1.out.lt
  have cB1_0 : w1.cell? ⟨w.heap.size + 1, 0, none⟩ = some (.int .u64 (bh : Int)) := B1.out.cell 0
  have cB1_1 : w1.cell? ⟨w.heap.size + 1, 1, none⟩ = some (.int .u64 (bl : Int)) := B1.out.cell 1
  have cB1_2 : w1.cell? ⟨w.heap.size + 1, 2, none⟩ = some (.bool false) := B1.out.cell 2
  have lB1 : w.heap.size + 1 < w1.heap.size := B1.out.lt
  have cR1_0 : w1.cell? ⟨w.heap.size + 1 + 1, 0, none⟩ = some (.int .i64 0) := R1.out.cell 0
  have cR1_1 : w1.cell? ⟨w.heap.size + 1 + 1, 1, none⟩ = some (.int .i64 0) := R1.out.cell 1
  have lR1 : w.heap.size + 1 + 1 < w1.heap.size := R1.out.lt
  go_wp2_with fail
  refine (OV1.out _).mono ?_
  rintro e w2 ⟨ph, pl, p2h, p2l, hph, hpl, _, _, hp, _, rfl, hn⟩
  have A2 := Lib.hid (hn.row ((A1.out.alloc (.cells #[.int .u64 (gh : Int), .int .u64 (gl : Int)] 159))))
  have B2 := Lib.hid (hn.row ((B1.out.alloc (.cells #[.int .u64 (gh : Int), .int .u64 (gl : Int)] 159))))
  have R2 := Lib.hid (hn.row ((R1.out.alloc (.cells #[.int .u64 (gh : Int), .int .u64 (gl : Int)] 159))))
  have G2 := Lib.hid (hn.row ((Row.new_at w1 159 [.int .u64 (gh : Int), .int .u64 (gl : Int)] (g := w1.heap.size) (by simp))))
  have N2 := Lib.hid (((N1.out.alloc (.cells #[.int .u64 (gh : Int), .int .u64 (gl : Int)] 159))).trans hn)
  clear hn cA1_0 cA1_1 cA1_2 lA1 cB1_0 cB1_1 cB1_2 lB1 cR1_0 cR1_1 lR1 A1 B1 R1 N1
  generalize w1.heap.size = z1 at *
  have cA2_0 : w2.cell? ⟨w.heap.size, 0, none⟩ = some (.int .u64 (ah : Int)) := A2.out.cell 0
  have cA2_1 : w2.cell? ⟨w.heap.size, 1, none⟩ = some (.int .u64 (al : Int)) := A2.out.cell 1
  have cA2_2 : w2.cell? ⟨w.heap.size, 2, none⟩ = some (.bool true) := A2.out.cell 2
  have lA2 : w.heap.size < w2.heap.size := A2.out.lt
  have cB2_0 : w2.cell? ⟨w.heap.size + 1, 0, none⟩ = some (.int .u64 (bh : Int)) := B2.out.cell 0
  have cB2_1 : w2.cell? ⟨w.heap.size + 1, 1, none⟩ = some (.int .u64 (bl : Int)) := B2.out.cell 1
  have cB2_2 : w2.cell? ⟨w.heap.size + 1, 2, none⟩ = some (.bool false) := B2.out.cell 2
  have lB2 : w.heap.size + 1 < w2.heap.size := B2.out.lt
  have cR2_0 : w2.cell? ⟨w.heap.size + 1 + 1, 0, none⟩ = some (.int .i64 0) := R2.out.cell 0
  have cR2_1 : w2.cell? ⟨w.heap.size + 1 + 1, 1, none⟩ = some (.int .i64 0) := R2.out.cell 1
  have lR2 : w.heap.size + 1 + 1 < w2.heap.size := R2.out.lt
  have cG2_0 : w2.cell? ⟨z1, 0, none⟩ = some (.int .u64 (gh : Int)) := G2.out.cell 0
  have cG2_1 : w2.cell? ⟨z1, 1, none⟩ = some (.int .u64 (gl : Int)) := G2.out.cell 1
  have lG2 : z1 < w2.heap.size := G2.out.lt
  have hp : two ph pl = m.natAbs / Nat.gcd m.natAbs n.natAbs := by rw [hp, HG.out, HA.out.2.2.1]
  have hP : IsW ph pl true (quo m (Nat.gcd m.natAbs n.natAbs)) := quo_isW GP.out.1 (Nat.gcd_dvd_left _ _) hph hpl hp HA.out.2.2.2
  have HP := Lib.hid hP
  clear hp hP hph hpl OV1
  go_wp2_with fail
  refine (OV2.out _).mono ?_
  rintro e w3 ⟨qh, ql, q2h, q2l, hqh, hql, _, _, hq, _, rfl, hn⟩
  have A3 := Lib.hid (hn.row (((A2.out.alloc (.cells #[.int .u64 (ph : Int), .int .u64 (pl : Int)] 159)).alloc (.cells #[.int .u64 (p2h : Int), .int .u64 (p2l : Int)] 159))))
  have B3 := Lib.hid (hn.row (((B2.out.alloc (.cells #[.int .u64 (ph : Int), .int .u64 (pl : Int)] 159)).alloc (.cells #[.int .u64 (p2h : Int), .int .u64 (p2l : Int)] 159))))
  have R3 := Lib.hid (hn.row (((R2.out.alloc (.cells #[.int .u64 (ph : Int), .int .u64 (pl : Int)] 159)).alloc (.cells #[.int .u64 (p2h : Int), .int .u64 (p2l : Int)] 159))))
  have G3 := Lib.hid (hn.row (((G2.out.alloc (.cells #[.int .u64 (ph : Int), .int .u64 (pl : Int)] 159)).alloc (.cells #[.int .u64 (p2h : Int), .int .u64 (p2l : Int)] 159))))
  have P3 := Lib.hid (hn.row (((Row.new_at w2 159 [.int .u64 (ph : Int), .int .u64 (pl : Int)] (g := w2.heap.size) (by simp)).alloc (.cells #[.int .u64 (p2h : Int), .int .u64 (p2l : Int)] 159))))
  have N3 := Lib.hid ((((N2.out.alloc (.cells #[.int .u64 (ph : Int), .int .u64 (pl : Int)] 159)).alloc (.cells #[.int .u64 (p2h : Int), .int .u64 (p2l : Int)] 159))).trans hn)
  clear hn cA2_0 cA2_1 cA2_2 lA2 cB2_0 cB2_1 cB2_2 lB2 cR2_0 cR2_1 lR2 cG2_0 cG2_1 lG2 A2 B2 R2 G2 N2
  generalize w2.heap.size = z2 at *
  have cA3_0 : w3.cell? ⟨w.heap.size, 0, none⟩ = some (.int .u64 (ah : Int)) := A3.out.cell 0
  have cA3_1 : w3.cell? ⟨w.heap.size, 1, none⟩ = some (.int .u64 (al : Int)) := A3.out.cell 1
  have cA3_2 : w3.cell? ⟨w.heap.size, 2, none⟩ = some (.bool true) := A3.out.cell 2
  have lA3 : w.heap.size < w3.heap.size := A3.out.lt
  have cB3_0 : w3.cell? ⟨w.heap.size + 1, 0, none⟩ = some (.int .u64 (bh : Int)) := B3.out.cell 0
  have cB3_1 : w3.cell? ⟨w.heap.size + 1, 1, none⟩ = some (.int .u64 (bl : Int)) := B3.out.cell 1
  have cB3_2 : w3.cell? ⟨w.heap.size + 1, 2, none⟩ = some (.bool false) := B3.out.cell 2
  have lB3 : w.heap.size + 1 < w3.heap.size := B3.out.lt
  have cR3_0 : w3.cell? ⟨w.heap.size + 1 + 1, 0, none⟩ = some (.int .i64 0) := R3.out.cell 0
  have cR3_1 : w3.cell? ⟨w.heap.size + 1 + 1, 1, none⟩ = some (.int .i64 0) := R3.out.cell 1
  have lR3 : w.heap.size + 1 + 1 < w3.heap.size := R3.out.lt
  have cG3_0 : w3.cell? ⟨z1, 0, none⟩ = some (.int .u64 (gh : Int)) := G3.out.cell 0
  have cG3_1 : w3.cell? ⟨z1, 1, none⟩ = some (.int .u64 (gl : Int)) := G3.out.cell 1
  have lG3 : z1 < w3.heap.size := G3.out.lt
  have cP3_0 : w3.cell? ⟨z2, 0, none⟩ = some (.int .u64 (ph : Int)) := P3.out.cell 0
  have cP3_1 : w3.cell? ⟨z2, 1, none⟩ = some (.int .u64 (pl : Int)) := P3.out.cell 1
  have lP3 : z2 < w3.heap.size := P3.out.lt
  have hq : two qh ql = n.natAbs / Nat.gcd m.natAbs n.natAbs := by rw [hq, HG.out, HB.out.2.2.1]
  have hQ : IsW qh ql false (quo n (Nat.gcd m.natAbs n.natAbs)) := quo_isW GP.out.1 (Nat.gcd_dvd_right _ _) hqh hql hq HB.out.2.2.2
  have NU1 := Lib.hid (fun W => number_no ph pl true _ HP.out Y1.out W)
  have NU2 := Lib.hid (fun W => number_no qh ql false _ hQ Y2.out W)
  have hz : two ph pl ≠ 0 := by
    have h1 := HP.out.2.2.1
    have h2 : decide (quo m (Nat.gcd m.natAbs n.natAbs) < 0) = true := HP.out.2.2.2.symm
    have h3 := of_decide_eq_true h2
    omega
  have IZ := Lib.hid (fun W => isZero_no ph pl hz W)
  clear hz
  clear hq hQ hqh hql OV2
  obtain ⟨p, hp⟩ : ∃ p, p = quo m (Nat.gcd m.natAbs n.natAbs) := ⟨_, rfl⟩
  obtain ⟨q, hq⟩ : ∃ q, q = quo n (Nat.gcd m.natAbs n.natAbs) := ⟨_, rfl⟩
  rw [← hp] at Y1
  rw [← hq] at Y2
  have HPQ := Lib.hid (And.intro hp hq)
  clear hp hq HP
  go_wp2_with fail
  refine (IZ.out _).mono ?_
  rintro e w4 ⟨rfl, hn⟩
  have A4 := Lib.hid (hn.row (((A3.out.alloc (.cells #[.int .u64 (qh : Int), .int .u64 (ql : Int)] 159)).alloc (.cells #[.int .u64 (q2h : Int), .int .u64 (q2l : Int)] 159))))
  have B4 := Lib.hid (hn.row (((B3.out.alloc (.cells #[.int .u64 (qh : Int), .int .u64 (ql : Int)] 159)).alloc (.cells #[.int .u64 (q2h : Int), .int .u64 (q2l : Int)] 159))))
  have R4 := Lib.hid (hn.row (((R3.out.alloc (.cells #[.int .u64 (qh : Int), .int .u64 (ql : Int)] 159)).alloc (.cells #[.int .u64 (q2h : Int), .int .u64 (q2l : Int)] 159))))
  have G4 := Lib.hid (hn.row (((G3.out.alloc (.cells #[.int .u64 (qh : Int), .int .u64 (ql : Int)] 159)).alloc (.cells #[.int .u64 (q2h : Int), .int .u64 (q2l : Int)] 159))))
  have P4 := Lib.hid (hn.row (((P3.out.alloc (.cells #[.int .u64 (qh : Int), .int .u64 (ql : Int)] 159)).alloc (.cells #[.int .u64 (q2h : Int), .int .u64 (q2l : Int)] 159))))
  have Q4 := Lib.hid (hn.row (((Row.new_at w3 159 [.int .u64 (qh : Int), .int .u64 (ql : Int)] (g := w3.heap.size) (by simp)).alloc (.cells #[.int .u64 (q2h : Int), .int .u64 (q2l : Int)] 159))))
  have N4 := Lib.hid ((((N3.out.alloc (.cells #[.int .u64 (qh : Int), .int .u64 (ql : Int)] 159)).alloc (.cells #[.int .u64 (q2h : Int), .int .u64 (q2l : Int)] 159))).trans hn)
  clear hn cA3_0 cA3_1 cA3_2 lA3 cB3_0 cB3_1 cB3_2 lB3 cR3_0 cR3_1 lR3 cG3_0 cG3_1 lG3 cP3_0 cP3_1 lP3 A3 B3 R3 G3 P3 N3
  generalize w3.heap.size = z3 at *
  have cA4_0 : w4.cell? ⟨w.heap.size, 0, none⟩ = some (.int .u64 (ah : Int)) := A4.out.cell 0
  have cA4_1 : w4.cell? ⟨w.heap.size, 1, none⟩ = some (.int .u64 (al : Int)) := A4.out.cell 1
  have cA4_2 : w4.cell? ⟨w.heap.size, 2, none⟩ = some (.bool true) := A4.out.cell 2
  have lA4 : w.heap.size < w4.heap.size := A4.out.lt
  have cB4_0 : w4.cell? ⟨w.heap.size + 1, 0, none⟩ = some (.int .u64 (bh : Int)) := B4.out.cell 0
  have cB4_1 : w4.cell? ⟨w.heap.size + 1, 1, none⟩ = some (.int .u64 (bl : Int)) := B4.out.cell 1
  have cB4_2 : w4.cell? ⟨w.heap.size + 1, 2, none⟩ = some (.bool false) := B4.out.cell 2
  have lB4 : w.heap.size + 1 < w4.heap.size := B4.out.lt
  have cR4_0 : w4.cell? ⟨w.heap.size + 1 + 1, 0, none⟩ = some (.int .i64 0) := R4.out.cell 0
  have cR4_1 : w4.cell? ⟨w.heap.size + 1 + 1, 1, none⟩ = some (.int .i64 0) := R4.out.cell 1
  have lR4 : w.heap.size + 1 + 1 < w4.heap.size := R4.out.lt
  have cG4_0 : w4.cell? ⟨z1, 0, none⟩ = some (.int .u64 (gh : Int)) := G4.out.cell 0
  have cG4_1 : w4.cell? ⟨z1, 1, none⟩ = some (.int .u64 (gl : Int)) := G4.out.cell 1
  have lG4 : z1 < w4.heap.size := G4.out.lt
  have cP4_0 : w4.cell? ⟨z2, 0, none⟩ = some (.int .u64 (ph : Int)) := P4.out.cell 0
  have cP4_1 : w4.cell? ⟨z2, 1, none⟩ = some (.int .u64 (pl : Int)) := P4.out.cell 1
  have lP4 : z2 < w4.heap.size := P4.out.lt
  have cQ4_0 : w4.cell? ⟨z3, 0, none⟩ = some (.int .u64 (qh : Int)) := Q4.out.cell 0
  have cQ4_1 : w4.cell? ⟨z3, 1, none⟩ = some (.int .u64 (ql : Int)) := Q4.out.cell 1
  have lQ4 : z3 < w4.heap.size := Q4.out.lt
  clear IZ
  go_wp2_with fail
  refine (NU1.out _).mono ?_
  rintro e w5 ⟨rfl, hn⟩
  have A5 := Lib.hid (hn.row (A4.out))
  have B5 := Lib.hid (hn.row (B4.out))
  have R5 := Lib.hid (hn.row (R4.out))
  have G5 := Lib.hid (hn.row (G4.out))
  have P5 := Lib.hid (hn.row (P4.out))
  have Q5 := Lib.hid (hn.row (Q4.out))
  have N5 := Lib.hid ((N4.out).trans hn)
  clear hn cA4_0 cA4_1 cA4_2 lA4 cB4_0 cB4_1 cB4_2 lB4 cR4_0 cR4_1 lR4 cG4_0 cG4_1 lG4 cP4_0 cP4_1 lP4 cQ4_0 cQ4_1 lQ4 A4 B4 R4 G4 P4 Q4 N4
  have cA5_0 : w5.cell? ⟨w.heap.size, 0, none⟩ = some (.int .u64 (ah : Int)) := A5.out.cell 0
  have cA5_1 : w5.cell? ⟨w.heap.size, 1, none⟩ = some (.int .u64 (al : Int)) := A5.out.cell 1
  have cA5_2 : w5.cell? ⟨w.heap.size, 2, none⟩ = some (.bool true) := A5.out.cell 2
  have lA5 : w.heap.size < w5.heap.size := A5.out.lt
  have cB5_0 : w5.cell? ⟨w.heap.size + 1, 0, none⟩ = some (.int .u64 (bh : Int)) := B5.out.cell 0
  have cB5_1 : w5.cell? ⟨w.heap.size + 1, 1, none⟩ = some (.int .u64 (bl : Int)) := B5.out.cell 1
  have cB5_2 : w5.cell? ⟨w.heap.size + 1, 2, none⟩ = some (.bool false) := B5.out.cell 2
  have lB5 : w.heap.size + 1 < w5.heap.size := B5.out.lt
  have cR5_0 : w5.cell? ⟨w.heap.size + 1 + 1, 0, none⟩ = some (.int .i64 0) := R5.out.cell 0
  have cR5_1 : w5.cell? ⟨w.heap.size + 1 + 1, 1, none⟩ = some (.int .i64 0) := R5.out.cell 1
  have lR5 : w.heap.size + 1 + 1 < w5.heap.size := R5.out.lt
  have cG5_0 : w5.cell? ⟨z1, 0, none⟩ = some (.int .u64 (gh : Int)) := G5.out.cell 0
  have cG5_1 : w5.cell? ⟨z1, 1, none⟩ = some (.int .u64 (gl : Int)) := G5.out.cell 1
  have lG5 : z1 < w5.heap.size := G5.out.lt
  have cP5_0 : w5.cell? ⟨z2, 0, none⟩ = some (.int .u64 (ph : Int)) := P5.out.cell 0
  have cP5_1 : w5.cell? ⟨z2, 1, none⟩ = some (.int .u64 (pl : Int)) := P5.out.cell 1
  have lP5 : z2 < w5.heap.size := P5.out.lt
  have cQ5_0 : w5.cell? ⟨z3, 0, none⟩ = some (.int .u64 (qh : Int)) := Q5.out.cell 0
  have cQ5_1 : w5.cell? ⟨z3, 1, none⟩ = some (.int .u64 (ql : Int)) := Q5.out.cell 1
  have lQ5 : z3 < w5.heap.size := Q5.out.lt
  go_wp2_with fail
  refine (NU2.out _).mono ?_
  rintro e w6 ⟨rfl, hn⟩
  have A6 := Lib.hid (hn.row (A5.out))
  have B6 := Lib.hid (hn.row (B5.out))
  have R6 := Lib.hid (hn.row (R5.out))
  have G6 := Lib.hid (hn.row (G5.out))
  have P6 := Lib.hid (hn.row (P5.out))
  have Q6 := Lib.hid (hn.row (Q5.out))
  have N6 := Lib.hid ((N5.out).trans hn)
  clear hn cA5_0 cA5_1 cA5_2 lA5 cB5_0 cB5_1 cB5_2 lB5 cR5_0 cR5_1 lR5 cG5_0 cG5_1 lG5 cP5_0 cP5_1 lP5 cQ5_0 cQ5_1 lQ5 A5 B5 R5 G5 P5 Q5 N5
  have cA6_0 : w6.cell? ⟨w.heap.size, 0, none⟩ = some (.int .u64 (ah : Int)) := A6.out.cell 0
  have cA6_1 : w6.cell? ⟨w.heap.size, 1, none⟩ = some (.int .u64 (al : Int)) := A6.out.cell 1
  have cA6_2 : w6.cell? ⟨w.heap.size, 2, none⟩ = some (.bool true) := A6.out.cell 2
  have lA6 : w.heap.size < w6.heap.size := A6.out.lt
  have cB6_0 : w6.cell? ⟨w.heap.size + 1, 0, none⟩ = some (.int .u64 (bh : Int)) := B6.out.cell 0
  have cB6_1 : w6.cell? ⟨w.heap.size + 1, 1, none⟩ = some (.int .u64 (bl : Int)) := B6.out.cell 1
  have cB6_2 : w6.cell? ⟨w.heap.size + 1, 2, none⟩ = some (.bool false) := B6.out.cell 2
  have lB6 : w.heap.size + 1 < w6.heap.size := B6.out.lt
  have cR6_0 : w6.cell? ⟨w.heap.size + 1 + 1, 0, none⟩ = some (.int .i64 0) := R6.out.cell 0
  have cR6_1 : w6.cell? ⟨w.heap.size + 1 + 1, 1, none⟩ = some (.int .i64 0) := R6.out.cell 1
  have lR6 : w.heap.size + 1 + 1 < w6.heap.size := R6.out.lt
  have cG6_0 : w6.cell? ⟨z1, 0, none⟩ = some (.int .u64 (gh : Int)) := G6.out.cell 0
  have cG6_1 : w6.cell? ⟨z1, 1, none⟩ = some (.int .u64 (gl : Int)) := G6.out.cell 1
  have lG6 : z1 < w6.heap.size := G6.out.lt
  have cP6_0 : w6.cell? ⟨z2, 0, none⟩ = some (.int .u64 (ph : Int)) := P6.out.cell 0
  have cP6_1 : w6.cell? ⟨z2, 1, none⟩ = some (.int .u64 (pl : Int)) := P6.out.cell 1
  have lP6 : z2 < w6.heap.size := P6.out.lt
  have cQ6_0 : w6.cell? ⟨z3, 0, none⟩ = some (.int .u64 (qh : Int)) := Q6.out.cell 0
  have cQ6_1 : w6.cell? ⟨z3, 1, none⟩ = some (.int .u64 (ql : Int)) := Q6.out.cell 1
  have lQ6 : z3 < w6.heap.size := Q6.out.lt
  have fR6_0 : w6.frozen? ⟨w.heap.size + 1 + 1, 0, none⟩ = false := R6.out.free 0
  have fR6_1 : w6.frozen? ⟨w.heap.size + 1 + 1, 1, none⟩ = false := R6.out.free 1
  have R9 := Lib.hid ((R6.out.set 0 (.int .i64 0)).set 1 (.int .i64 0))
  have N9 := Lib.hid (new_set (new_set N6.out (w.heap.size + 1 + 1) (by omega) 0 (.int .i64 0)) (w.heap.size + 1 + 1) (by omega) 1 (.int .i64 0))
  clear NU1 NU2 A6 B6 G6 P6 Q6
  go_wp2_with fail
  generalize (w6.setCell ⟨w.heap.size + 1 + 1, 0, none⟩ (.int .i64 0)).setCell ⟨w.heap.size + 1 + 1, 1, none⟩ (.int .i64 0) = w9 at *
  have r0 : w9.cell? ⟨w.heap.size + 1 + 1, 0, none⟩ = some (.int .i64 0) := R9.out.cell 0
  have r1 : w9.cell? ⟨w.heap.size + 1 + 1, 1, none⟩ = some (.int .i64 0) := R9.out.cell 1
  exact bodyPost_ret (v := .tuple #[.agg #[.int .i64 0, .int .i64 0], .int .i64 20]) (by simp [results, Try.results115, go_sem, r0, r1]) rfl
    ⟨N9.out, by rw [← HPQ.out.1, ← HPQ.out.2]; exact .inr ⟨fun h => Y1.out h.1, rfl⟩⟩
set_option maxRecDepth 100000 in
set_option maxHeartbeats 1000000 in
theorem made_fyy (ah al bh bl : Nat) (m n : Int) (ha : IsW ah al false m) (hb : IsW bh bl false n) (hn0 : 0 < n) (hs : two bh bl ≤ 170141183460469231731687303715884105728)
    (y1 : In64 (quo m (Nat.gcd m.natAbs n.natAbs))) (y2 : In64 (quo n (Nat.gcd m.natAbs n.natAbs))) (w : World) :
    Calls Try.prog 115 #[.agg #[.int .u64 ah, .int .u64 al, .bool false], .agg #[.int .u64 bh, .int .u64 bl, .bool false]] w (MadeRes m n w) := by
  have hgp : 0 < Nat.gcd m.natAbs n.natAbs := Nat.gcd_pos_of_pos_right _ (by omega)
  have hgl : Nat.gcd m.natAbs n.natAbs ≤ 170141183460469231731687303715884105728 := Nat.le_trans (Nat.le_of_dvd (by omega) (Nat.gcd_dvd_right _ _)) (by rw [← hb.2.2.1]; exact hs)
  have CO := Lib.hid (fun W => common_any ah al bh bl ha.1 ha.2.1 hb.1 hb.2.1 hs W)
  have GP := Lib.hid (And.intro hgp hgl)
  have HA := Lib.hid ha
  have HB := Lib.hid hb
  have HN0 := Lib.hid hn0
  have Y1 := Lib.hid y1
  have Y2 := Lib.hid y2
  clear hgp hgl ha hb hn0 hs y1 y2
  go_enter Try.func115, Try.ntmps115
  go_wp2_with fail
  refine (CO.out _).mono ?_
  rintro e w1 ⟨gh, gl, hgh, hgl, hg, rfl, hn⟩
  have hg : two gh gl = Nat.gcd m.natAbs n.natAbs := by rw [hg, HA.out.2.2.1, HB.out.2.2.1]
  have hg1 : 0 < two gh gl := by rw [hg]; exact GP.out.1
  have hg2 : two gh gl ≤ 170141183460469231731687303715884105728 := by rw [hg]; exact GP.out.2
  have OV1 := Lib.hid (fun W => over_any ah al gh gl HA.out.1 HA.out.2.1 hgh hgl hg1 hg2 W)
  have OV2 := Lib.hid (fun W => over_any bh bl gh gl HB.out.1 HB.out.2.1 hgh hgl hg1 hg2 W)
  have HG := Lib.hid hg
  clear hg hg1 hg2 hgh hgl CO
  have A1 := Lib.hid (hn.row ((((Row.new_at w 161 [.int .u64 (ah : Int), .int .u64 (al : Int), .bool false] (g := w.heap.size) (by simp)).alloc (.cells #[.int .u64 (bh : Int), .int .u64 (bl : Int), .bool false] 161)).alloc (.cells #[.int .i64 0, .int .i64 0] 75))))
  have B1 := Lib.hid (hn.row (((Row.new_at (w.alloc (.cells #[.int .u64 (ah : Int), .int .u64 (al : Int), .bool false] 161)) 161 [.int .u64 (bh : Int), .int .u64 (bl : Int), .bool false] (g := w.heap.size + 1) (by simp)).alloc (.cells #[.int .i64 0, .int .i64 0] 75))))
  have R1 := Lib.hid (hn.row ((Row.new_at ((w.alloc (.cells #[.int .u64 (ah : Int), .int .u64 (al : Int), .bool false] 161)).alloc (.cells #[.int .u64 (bh : Int), .int .u64 (bl : Int), .bool false] 161)) 75 [.int .i64 0, .int .i64 0] (g := w.heap.size + 1 + 1) (by simp))))
  have N1 := Lib.hid ((((((New.refl w).alloc (.cells #[.int .u64 (ah : Int), .int .u64 (al : Int), .bool false] 161)).alloc (.cells #[.int .u64 (bh : Int), .int .u64 (bl : Int), .bool false] 161)).alloc (.cells #[.int .i64 0, .int .i64 0] 75))).trans hn)
  clear hn
  have cA1_0 : w1.cell? ⟨w.heap.size, 0, none⟩ = some (.int .u64 (ah : Int)) := A1.out.cell 0
  have cA1_1 : w1.cell? ⟨w.heap.size, 1, none⟩ = some (.int .u64 (al : Int)) := A1.out.cell 1
  have cA1_2 : w1.cell? ⟨w.heap.size, 2, none⟩ = some (.bool false) := A1.out.cell 2
  have lA1 : w.heap.size < w1.heap.size := A1.out.lt
  have cB1_0 : w1.cell? ⟨w.heap.size + 1, 0, none⟩ = some (.int .u64 (bh : Int)) := B1.out.cell 0
  have cB1_1 : w1.cell? ⟨w.heap.size + 1, 1, none⟩ = some (.int .u64 (bl : Int)) := B1.out.cell 1
  have cB1_2 : w1.cell? ⟨w.heap.size + 1, 2, none⟩ = some (.bool false) := B1.out.cell 2
  have lB1 : w.heap.size + 1 < w1.heap.size := B1.out.lt
  have cR1_0 : w1.cell? ⟨w.heap.size + 1 + 1, 0, none⟩ = some (.int .i64 0) := R1.out.cell 0
  have cR1_1 : w1.cell? ⟨w.heap.size + 1 + 1, 1, none⟩ = some (.int .i64 0) := R1.out.cell 1
  have lR1 : w.heap.size + 1 + 1 < w1.heap.size := R1.out.lt
  go_wp2_with fail
  refine (OV1.out _).mono ?_
  rintro e w2 ⟨ph, pl, p2h, p2l, hph, hpl, _, _, hp, _, rfl, hn⟩
  have A2 := Lib.hid (hn.row ((A1.out.alloc (.cells #[.int .u64 (gh : Int), .int .u64 (gl : Int)] 159))))
  have B2 := Lib.hid (hn.row ((B1.out.alloc (.cells #[.int .u64 (gh : Int), .int .u64 (gl : Int)] 159))))
  have R2 := Lib.hid (hn.row ((R1.out.alloc (.cells #[.int .u64 (gh : Int), .int .u64 (gl : Int)] 159))))
  have G2 := Lib.hid (hn.row ((Row.new_at w1 159 [.int .u64 (gh : Int), .int .u64 (gl : Int)] (g := w1.heap.size) (by simp))))
  have N2 := Lib.hid (((N1.out.alloc (.cells #[.int .u64 (gh : Int), .int .u64 (gl : Int)] 159))).trans hn)
  clear hn cA1_0 cA1_1 cA1_2 lA1 cB1_0 cB1_1 cB1_2 lB1 cR1_0 cR1_1 lR1 A1 B1 R1 N1
  generalize w1.heap.size = z1 at *
  have cA2_0 : w2.cell? ⟨w.heap.size, 0, none⟩ = some (.int .u64 (ah : Int)) := A2.out.cell 0
  have cA2_1 : w2.cell? ⟨w.heap.size, 1, none⟩ = some (.int .u64 (al : Int)) := A2.out.cell 1
  have cA2_2 : w2.cell? ⟨w.heap.size, 2, none⟩ = some (.bool false) := A2.out.cell 2
  have lA2 : w.heap.size < w2.heap.size := A2.out.lt
  have cB2_0 : w2.cell? ⟨w.heap.size + 1, 0, none⟩ = some (.int .u64 (bh : Int)) := B2.out.cell 0
  have cB2_1 : w2.cell? ⟨w.heap.size + 1, 1, none⟩ = some (.int .u64 (bl : Int)) := B2.out.cell 1
  have cB2_2 : w2.cell? ⟨w.heap.size + 1, 2, none⟩ = some (.bool false) := B2.out.cell 2
  have lB2 : w.heap.size + 1 < w2.heap.size := B2.out.lt
  have cR2_0 : w2.cell? ⟨w.heap.size + 1 + 1, 0, none⟩ = some (.int .i64 0) := R2.out.cell 0
  have cR2_1 : w2.cell? ⟨w.heap.size + 1 + 1, 1, none⟩ = some (.int .i64 0) := R2.out.cell 1
  have lR2 : w.heap.size + 1 + 1 < w2.heap.size := R2.out.lt
  have cG2_0 : w2.cell? ⟨z1, 0, none⟩ = some (.int .u64 (gh : Int)) := G2.out.cell 0
  have cG2_1 : w2.cell? ⟨z1, 1, none⟩ = some (.int .u64 (gl : Int)) := G2.out.cell 1
  have lG2 : z1 < w2.heap.size := G2.out.lt
  have hp : two ph pl = m.natAbs / Nat.gcd m.natAbs n.natAbs := by rw [hp, HG.out, HA.out.2.2.1]
  have hP : IsW ph pl false (quo m (Nat.gcd m.natAbs n.natAbs)) := quo_isW GP.out.1 (Nat.gcd_dvd_left _ _) hph hpl hp HA.out.2.2.2
  have HP := Lib.hid hP
  clear hp hP hph hpl OV1
  go_wp2_with fail
  refine (OV2.out _).mono ?_
  rintro e w3 ⟨qh, ql, q2h, q2l, hqh, hql, _, _, hq, _, rfl, hn⟩
  have A3 := Lib.hid (hn.row (((A2.out.alloc (.cells #[.int .u64 (ph : Int), .int .u64 (pl : Int)] 159)).alloc (.cells #[.int .u64 (p2h : Int), .int .u64 (p2l : Int)] 159))))
  have B3 := Lib.hid (hn.row (((B2.out.alloc (.cells #[.int .u64 (ph : Int), .int .u64 (pl : Int)] 159)).alloc (.cells #[.int .u64 (p2h : Int), .int .u64 (p2l : Int)] 159))))
  have R3 := Lib.hid (hn.row (((R2.out.alloc (.cells #[.int .u64 (ph : Int), .int .u64 (pl : Int)] 159)).alloc (.cells #[.int .u64 (p2h : Int), .int .u64 (p2l : Int)] 159))))
  have G3 := Lib.hid (hn.row (((G2.out.alloc (.cells #[.int .u64 (ph : Int), .int .u64 (pl : Int)] 159)).alloc (.cells #[.int .u64 (p2h : Int), .int .u64 (p2l : Int)] 159))))
  have P3 := Lib.hid (hn.row (((Row.new_at w2 159 [.int .u64 (ph : Int), .int .u64 (pl : Int)] (g := w2.heap.size) (by simp)).alloc (.cells #[.int .u64 (p2h : Int), .int .u64 (p2l : Int)] 159))))
  have N3 := Lib.hid ((((N2.out.alloc (.cells #[.int .u64 (ph : Int), .int .u64 (pl : Int)] 159)).alloc (.cells #[.int .u64 (p2h : Int), .int .u64 (p2l : Int)] 159))).trans hn)
  clear hn cA2_0 cA2_1 cA2_2 lA2 cB2_0 cB2_1 cB2_2 lB2 cR2_0 cR2_1 lR2 cG2_0 cG2_1 lG2 A2 B2 R2 G2 N2
  generalize w2.heap.size = z2 at *
  have cA3_0 : w3.cell? ⟨w.heap.size, 0, none⟩ = some (.int .u64 (ah : Int)) := A3.out.cell 0
  have cA3_1 : w3.cell? ⟨w.heap.size, 1, none⟩ = some (.int .u64 (al : Int)) := A3.out.cell 1
  have cA3_2 : w3.cell? ⟨w.heap.size, 2, none⟩ = some (.bool false) := A3.out.cell 2
  have lA3 : w.heap.size < w3.heap.size := A3.out.lt
  have cB3_0 : w3.cell? ⟨w.heap.size + 1, 0, none⟩ = some (.int .u64 (bh : Int)) := B3.out.cell 0
  have cB3_1 : w3.cell? ⟨w.heap.size + 1, 1, none⟩ = some (.int .u64 (bl : Int)) := B3.out.cell 1
  have cB3_2 : w3.cell? ⟨w.heap.size + 1, 2, none⟩ = some (.bool false) := B3.out.cell 2
  have lB3 : w.heap.size + 1 < w3.heap.size := B3.out.lt
  have cR3_0 : w3.cell? ⟨w.heap.size + 1 + 1, 0, none⟩ = some (.int .i64 0) := R3.out.cell 0
  have cR3_1 : w3.cell? ⟨w.heap.size + 1 + 1, 1, none⟩ = some (.int .i64 0) := R3.out.cell 1
  have lR3 : w.heap.size + 1 + 1 < w3.heap.size := R3.out.lt
  have cG3_0 : w3.cell? ⟨z1, 0, none⟩ = some (.int .u64 (gh : Int)) := G3.out.cell 0
  have cG3_1 : w3.cell? ⟨z1, 1, none⟩ = some (.int .u64 (gl : Int)) := G3.out.cell 1
  have lG3 : z1 < w3.heap.size := G3.out.lt
  have cP3_0 : w3.cell? ⟨z2, 0, none⟩ = some (.int .u64 (ph : Int)) := P3.out.cell 0
  have cP3_1 : w3.cell? ⟨z2, 1, none⟩ = some (.int .u64 (pl : Int)) := P3.out.cell 1
  have lP3 : z2 < w3.heap.size := P3.out.lt
  have hq : two qh ql = n.natAbs / Nat.gcd m.natAbs n.natAbs := by rw [hq, HG.out, HB.out.2.2.1]
  have hQ : IsW qh ql false (quo n (Nat.gcd m.natAbs n.natAbs)) := quo_isW GP.out.1 (Nat.gcd_dvd_right _ _) hqh hql hq HB.out.2.2.2
  have NU1 := Lib.hid (fun W => number_yes ph pl false _ HP.out Y1.out W)
  have NU2 := Lib.hid (fun W => number_yes qh ql false _ hQ Y2.out W)
  clear hq hQ hqh hql OV2
  obtain ⟨p, hp⟩ : ∃ p, p = quo m (Nat.gcd m.natAbs n.natAbs) := ⟨_, rfl⟩
  obtain ⟨q, hq⟩ : ∃ q, q = quo n (Nat.gcd m.natAbs n.natAbs) := ⟨_, rfl⟩
  rw [← hp] at NU1 Y1
  rw [← hq] at NU2 Y2
  have HPQ := Lib.hid (And.intro hp hq)
  clear hp hq HP
  go_wp2_with fail
  refine (NU1.out _).mono ?_
  rintro e w4 ⟨rfl, hn⟩
  have A4 := Lib.hid (hn.row (((A3.out.alloc (.cells #[.int .u64 (qh : Int), .int .u64 (ql : Int)] 159)).alloc (.cells #[.int .u64 (q2h : Int), .int .u64 (q2l : Int)] 159))))
  have B4 := Lib.hid (hn.row (((B3.out.alloc (.cells #[.int .u64 (qh : Int), .int .u64 (ql : Int)] 159)).alloc (.cells #[.int .u64 (q2h : Int), .int .u64 (q2l : Int)] 159))))
  have R4 := Lib.hid (hn.row (((R3.out.alloc (.cells #[.int .u64 (qh : Int), .int .u64 (ql : Int)] 159)).alloc (.cells #[.int .u64 (q2h : Int), .int .u64 (q2l : Int)] 159))))
  have G4 := Lib.hid (hn.row (((G3.out.alloc (.cells #[.int .u64 (qh : Int), .int .u64 (ql : Int)] 159)).alloc (.cells #[.int .u64 (q2h : Int), .int .u64 (q2l : Int)] 159))))
  have P4 := Lib.hid (hn.row (((P3.out.alloc (.cells #[.int .u64 (qh : Int), .int .u64 (ql : Int)] 159)).alloc (.cells #[.int .u64 (q2h : Int), .int .u64 (q2l : Int)] 159))))
  have Q4 := Lib.hid (hn.row (((Row.new_at w3 159 [.int .u64 (qh : Int), .int .u64 (ql : Int)] (g := w3.heap.size) (by simp)).alloc (.cells #[.int .u64 (q2h : Int), .int .u64 (q2l : Int)] 159))))
  have N4 := Lib.hid ((((N3.out.alloc (.cells #[.int .u64 (qh : Int), .int .u64 (ql : Int)] 159)).alloc (.cells #[.int .u64 (q2h : Int), .int .u64 (q2l : Int)] 159))).trans hn)
  clear hn cA3_0 cA3_1 cA3_2 lA3 cB3_0 cB3_1 cB3_2 lB3 cR3_0 cR3_1 lR3 cG3_0 cG3_1 lG3 cP3_0 cP3_1 lP3 A3 B3 R3 G3 P3 N3
  generalize w3.heap.size = z3 at *
  have cA4_0 : w4.cell? ⟨w.heap.size, 0, none⟩ = some (.int .u64 (ah : Int)) := A4.out.cell 0
  have cA4_1 : w4.cell? ⟨w.heap.size, 1, none⟩ = some (.int .u64 (al : Int)) := A4.out.cell 1
  have cA4_2 : w4.cell? ⟨w.heap.size, 2, none⟩ = some (.bool false) := A4.out.cell 2
  have lA4 : w.heap.size < w4.heap.size := A4.out.lt
  have cB4_0 : w4.cell? ⟨w.heap.size + 1, 0, none⟩ = some (.int .u64 (bh : Int)) := B4.out.cell 0
  have cB4_1 : w4.cell? ⟨w.heap.size + 1, 1, none⟩ = some (.int .u64 (bl : Int)) := B4.out.cell 1
  have cB4_2 : w4.cell? ⟨w.heap.size + 1, 2, none⟩ = some (.bool false) := B4.out.cell 2
  have lB4 : w.heap.size + 1 < w4.heap.size := B4.out.lt
  have cR4_0 : w4.cell? ⟨w.heap.size + 1 + 1, 0, none⟩ = some (.int .i64 0) := R4.out.cell 0
  have cR4_1 : w4.cell? ⟨w.heap.size + 1 + 1, 1, none⟩ = some (.int .i64 0) := R4.out.cell 1
  have lR4 : w.heap.size + 1 + 1 < w4.heap.size := R4.out.lt
  have cG4_0 : w4.cell? ⟨z1, 0, none⟩ = some (.int .u64 (gh : Int)) := G4.out.cell 0
  have cG4_1 : w4.cell? ⟨z1, 1, none⟩ = some (.int .u64 (gl : Int)) := G4.out.cell 1
  have lG4 : z1 < w4.heap.size := G4.out.lt
  have cP4_0 : w4.cell? ⟨z2, 0, none⟩ = some (.int .u64 (ph : Int)) := P4.out.cell 0
  have cP4_1 : w4.cell? ⟨z2, 1, none⟩ = some (.int .u64 (pl : Int)) := P4.out.cell 1
  have lP4 : z2 < w4.heap.size := P4.out.lt
  have cQ4_0 : w4.cell? ⟨z3, 0, none⟩ = some (.int .u64 (qh : Int)) := Q4.out.cell 0
  have cQ4_1 : w4.cell? ⟨z3, 1, none⟩ = some (.int .u64 (ql : Int)) := Q4.out.cell 1
  have lQ4 : z3 < w4.heap.size := Q4.out.lt
  go_wp2_with fail
  refine (NU2.out _).mono ?_
  rintro e w5 ⟨rfl, hn⟩
  have A5 := Lib.hid (hn.row (A4.out))
  have B5 := Lib.hid (hn.row (B4.out))
  have R5 := Lib.hid (hn.row (R4.out))
  have G5 := Lib.hid (hn.row (G4.out))
  have P5 := Lib.hid (hn.row (P4.out))
  have Q5 := Lib.hid (hn.row (Q4.out))
  have N5 := Lib.hid ((N4.out).trans hn)
  clear hn cA4_0 cA4_1 cA4_2 lA4 cB4_0 cB4_1 cB4_2 lB4 cR4_0 cR4_1 lR4 cG4_0 cG4_1 lG4 cP4_0 cP4_1 lP4 cQ4_0 cQ4_1 lQ4 A4 B4 R4 G4 P4 Q4 N4
  have cA5_0 : w5.cell? ⟨w.heap.size, 0, none⟩ = some (.int .u64 (ah : Int)) := A5.out.cell 0
  have cA5_1 : w5.cell? ⟨w.heap.size, 1, none⟩ = some (.int .u64 (al : Int)) := A5.out.cell 1
  have cA5_2 : w5.cell? ⟨w.heap.size, 2, none⟩ = some (.bool false) := A5.out.cell 2
  have lA5 : w.heap.size < w5.heap.size := A5.out.lt
  have cB5_0 : w5.cell? ⟨w.heap.size + 1, 0, none⟩ = some (.int .u64 (bh : Int)) := B5.out.cell 0
  have cB5_1 : w5.cell? ⟨w.heap.size + 1, 1, none⟩ = some (.int .u64 (bl : Int)) := B5.out.cell 1
  have cB5_2 : w5.cell? ⟨w.heap.size + 1, 2, none⟩ = some (.bool false) := B5.out.cell 2
  have lB5 : w.heap.size + 1 < w5.heap.size := B5.out.lt
  have cR5_0 : w5.cell? ⟨w.heap.size + 1 + 1, 0, none⟩ = some (.int .i64 0) := R5.out.cell 0
  have cR5_1 : w5.cell? ⟨w.heap.size + 1 + 1, 1, none⟩ = some (.int .i64 0) := R5.out.cell 1
  have lR5 : w.heap.size + 1 + 1 < w5.heap.size := R5.out.lt
  have cG5_0 : w5.cell? ⟨z1, 0, none⟩ = some (.int .u64 (gh : Int)) := G5.out.cell 0
  have cG5_1 : w5.cell? ⟨z1, 1, none⟩ = some (.int .u64 (gl : Int)) := G5.out.cell 1
  have lG5 : z1 < w5.heap.size := G5.out.lt
  have cP5_0 : w5.cell? ⟨z2, 0, none⟩ = some (.int .u64 (ph : Int)) := P5.out.cell 0
  have cP5_1 : w5.cell? ⟨z2, 1, none⟩ = some (.int .u64 (pl : Int)) := P5.out.cell 1
  have lP5 : z2 < w5.heap.size := P5.out.lt
  have cQ5_0 : w5.cell? ⟨z3, 0, none⟩ = some (.int .u64 (qh : Int)) := Q5.out.cell 0
  have cQ5_1 : w5.cell? ⟨z3, 1, none⟩ = some (.int .u64 (ql : Int)) := Q5.out.cell 1
  have lQ5 : z3 < w5.heap.size := Q5.out.lt
  have fR5_0 : w5.frozen? ⟨w.heap.size + 1 + 1, 0, none⟩ = false := R5.out.free 0
  have fR5_1 : w5.frozen? ⟨w.heap.size + 1 + 1, 1, none⟩ = false := R5.out.free 1
  have R9 := Lib.hid ((R5.out.set 0 (.int .i64 p)).set 1 (.int .i64 q))
  have N9 := Lib.hid (new_set (new_set N5.out (w.heap.size + 1 + 1) (by omega) 0 (.int .i64 p)) (w.heap.size + 1 + 1) (by omega) 1 (.int .i64 q))
  clear NU1 NU2 A5 B5 G5 P5 Q5
  go_wp2_with fail
  generalize (w5.setCell ⟨w.heap.size + 1 + 1, 0, none⟩ (.int .i64 p)).setCell ⟨w.heap.size + 1 + 1, 1, none⟩ (.int .i64 q) = w9 at *
  have r0 : w9.cell? ⟨w.heap.size + 1 + 1, 0, none⟩ = some (.int .i64 p) := R9.out.cell 0
  have r1 : w9.cell? ⟨w.heap.size + 1 + 1, 1, none⟩ = some (.int .i64 q) := R9.out.cell 1
  exact bodyPost_ret (v := .tuple #[.agg #[.int .i64 p, .int .i64 q], .int .i64 0]) (by simp [results, Try.results115, go_sem, r0, r1]) rfl
    ⟨N9.out, by rw [← HPQ.out.1, ← HPQ.out.2]; exact .inl ⟨Y1.out, Y2.out, rfl⟩⟩
set_option maxRecDepth 100000 in
set_option maxHeartbeats 1000000 in
theorem made_fyn (ah al bh bl : Nat) (m n : Int) (ha : IsW ah al false m) (hb : IsW bh bl false n) (hn0 : 0 < n) (hs : two bh bl ≤ 170141183460469231731687303715884105728)
    (y1 : In64 (quo m (Nat.gcd m.natAbs n.natAbs))) (y2 : ¬ In64 (quo n (Nat.gcd m.natAbs n.natAbs))) (w : World) :
    Calls Try.prog 115 #[.agg #[.int .u64 ah, .int .u64 al, .bool false], .agg #[.int .u64 bh, .int .u64 bl, .bool false]] w (MadeRes m n w) := by
  have hgp : 0 < Nat.gcd m.natAbs n.natAbs := Nat.gcd_pos_of_pos_right _ (by omega)
  have hgl : Nat.gcd m.natAbs n.natAbs ≤ 170141183460469231731687303715884105728 := Nat.le_trans (Nat.le_of_dvd (by omega) (Nat.gcd_dvd_right _ _)) (by rw [← hb.2.2.1]; exact hs)
  have CO := Lib.hid (fun W => common_any ah al bh bl ha.1 ha.2.1 hb.1 hb.2.1 hs W)
  have GP := Lib.hid (And.intro hgp hgl)
  have HA := Lib.hid ha
  have HB := Lib.hid hb
  have HN0 := Lib.hid hn0
  have Y1 := Lib.hid y1
  have Y2 := Lib.hid y2
  clear hgp hgl ha hb hn0 hs y1 y2
  go_enter Try.func115, Try.ntmps115
  go_wp2_with fail
  refine (CO.out _).mono ?_
  rintro e w1 ⟨gh, gl, hgh, hgl, hg, rfl, hn⟩
  have hg : two gh gl = Nat.gcd m.natAbs n.natAbs := by rw [hg, HA.out.2.2.1, HB.out.2.2.1]
  have hg1 : 0 < two gh gl := by rw [hg]; exact GP.out.1
  have hg2 : two gh gl ≤ 170141183460469231731687303715884105728 := by rw [hg]; exact GP.out.2
  have OV1 := Lib.hid (fun W => over_any ah al gh gl HA.out.1 HA.out.2.1 hgh hgl hg1 hg2 W)
  have OV2 := Lib.hid (fun W => over_any bh bl gh gl HB.out.1 HB.out.2.1 hgh hgl hg1 hg2 W)
  have HG := Lib.hid hg
  clear hg hg1 hg2 hgh hgl CO
  have A1 := Lib.hid (hn.row ((((Row.new_at w 161 [.int .u64 (ah : Int), .int .u64 (al : Int), .bool false] (g := w.heap.size) (by simp)).alloc (.cells #[.int .u64 (bh : Int), .int .u64 (bl : Int), .bool false] 161)).alloc (.cells #[.int .i64 0, .int .i64 0] 75))))
  have B1 := Lib.hid (hn.row (((Row.new_at (w.alloc (.cells #[.int .u64 (ah : Int), .int .u64 (al : Int), .bool false] 161)) 161 [.int .u64 (bh : Int), .int .u64 (bl : Int), .bool false] (g := w.heap.size + 1) (by simp)).alloc (.cells #[.int .i64 0, .int .i64 0] 75))))
  have R1 := Lib.hid (hn.row ((Row.new_at ((w.alloc (.cells #[.int .u64 (ah : Int), .int .u64 (al : Int), .bool false] 161)).alloc (.cells #[.int .u64 (bh : Int), .int .u64 (bl : Int), .bool false] 161)) 75 [.int .i64 0, .int .i64 0] (g := w.heap.size + 1 + 1) (by simp))))
  have N1 := Lib.hid ((((((New.refl w).alloc (.cells #[.int .u64 (ah : Int), .int .u64 (al : Int), .bool false] 161)).alloc (.cells #[.int .u64 (bh : Int), .int .u64 (bl : Int), .bool false] 161)).alloc (.cells #[.int .i64 0, .int .i64 0] 75))).trans hn)
  clear hn
  have cA1_0 : w1.cell? ⟨w.heap.size, 0, none⟩ = some (.int .u64 (ah : Int)) := A1.out.cell 0
  have cA1_1 : w1.cell? ⟨w.heap.size, 1, none⟩ = some (.int .u64 (al : Int)) := A1.out.cell 1
  have cA1_2 : w1.cell? ⟨w.heap.size, 2, none⟩ = some (.bool false) := A1.out.cell 2
  have lA1 : w.heap.size < w1.heap.size := A1.out.lt
  have cB1_0 : w1.cell? ⟨w.heap.size + 1, 0, none⟩ = some (.int .u64 (bh : Int)) := B1.out.cell 0
  have cB1_1 : w1.cell? ⟨w.heap.size + 1, 1, none⟩ = some (.int .u64 (bl : Int)) := B1.out.cell 1
  have cB1_2 : w1.cell? ⟨w.heap.size + 1, 2, none⟩ = some (.bool false) := B1.out.cell 2
  have lB1 : w.heap.size + 1 < w1.heap.size := B1.out.lt
  have cR1_0 : w1.cell? ⟨w.heap.size + 1 + 1, 0, none⟩ = some (.int .i64 0) := R1.out.cell 0
  have cR1_1 : w1.cell? ⟨w.heap.size + 1 + 1, 1, none⟩ = some (.int .i64 0) := R1.out.cell 1
  have lR1 : w.heap.size + 1 + 1 < w1.heap.size := R1.out.lt
  go_wp2_with fail
  refine (OV1.out _).mono ?_
  rintro e w2 ⟨ph, pl, p2h, p2l, hph, hpl, _, _, hp, _, rfl, hn⟩
  have A2 := Lib.hid (hn.row ((A1.out.alloc (.cells #[.int .u64 (gh : Int), .int .u64 (gl : Int)] 159))))
  have B2 := Lib.hid (hn.row ((B1.out.alloc (.cells #[.int .u64 (gh : Int), .int .u64 (gl : Int)] 159))))
  have R2 := Lib.hid (hn.row ((R1.out.alloc (.cells #[.int .u64 (gh : Int), .int .u64 (gl : Int)] 159))))
  have G2 := Lib.hid (hn.row ((Row.new_at w1 159 [.int .u64 (gh : Int), .int .u64 (gl : Int)] (g := w1.heap.size) (by simp))))
  have N2 := Lib.hid (((N1.out.alloc (.cells #[.int .u64 (gh : Int), .int .u64 (gl : Int)] 159))).trans hn)
  clear hn cA1_0 cA1_1 cA1_2 lA1 cB1_0 cB1_1 cB1_2 lB1 cR1_0 cR1_1 lR1 A1 B1 R1 N1
  generalize w1.heap.size = z1 at *
  have cA2_0 : w2.cell? ⟨w.heap.size, 0, none⟩ = some (.int .u64 (ah : Int)) := A2.out.cell 0
  have cA2_1 : w2.cell? ⟨w.heap.size, 1, none⟩ = some (.int .u64 (al : Int)) := A2.out.cell 1
  have cA2_2 : w2.cell? ⟨w.heap.size, 2, none⟩ = some (.bool false) := A2.out.cell 2
  have lA2 : w.heap.size < w2.heap.size := A2.out.lt
  have cB2_0 : w2.cell? ⟨w.heap.size + 1, 0, none⟩ = some (.int .u64 (bh : Int)) := B2.out.cell 0
  have cB2_1 : w2.cell? ⟨w.heap.size + 1, 1, none⟩ = some (.int .u64 (bl : Int)) := B2.out.cell 1
  have cB2_2 : w2.cell? ⟨w.heap.size + 1, 2, none⟩ = some (.bool false) := B2.out.cell 2
  have lB2 : w.heap.size + 1 < w2.heap.size := B2.out.lt
  have cR2_0 : w2.cell? ⟨w.heap.size + 1 + 1, 0, none⟩ = some (.int .i64 0) := R2.out.cell 0
  have cR2_1 : w2.cell? ⟨w.heap.size + 1 + 1, 1, none⟩ = some (.int .i64 0) := R2.out.cell 1
  have lR2 : w.heap.size + 1 + 1 < w2.heap.size := R2.out.lt
  have cG2_0 : w2.cell? ⟨z1, 0, none⟩ = some (.int .u64 (gh : Int)) := G2.out.cell 0
  have cG2_1 : w2.cell? ⟨z1, 1, none⟩ = some (.int .u64 (gl : Int)) := G2.out.cell 1
  have lG2 : z1 < w2.heap.size := G2.out.lt
  have hp : two ph pl = m.natAbs / Nat.gcd m.natAbs n.natAbs := by rw [hp, HG.out, HA.out.2.2.1]
  have hP : IsW ph pl false (quo m (Nat.gcd m.natAbs n.natAbs)) := quo_isW GP.out.1 (Nat.gcd_dvd_left _ _) hph hpl hp HA.out.2.2.2
  have HP := Lib.hid hP
  clear hp hP hph hpl OV1
  go_wp2_with fail
  refine (OV2.out _).mono ?_
  rintro e w3 ⟨qh, ql, q2h, q2l, hqh, hql, _, _, hq, _, rfl, hn⟩
  have A3 := Lib.hid (hn.row (((A2.out.alloc (.cells #[.int .u64 (ph : Int), .int .u64 (pl : Int)] 159)).alloc (.cells #[.int .u64 (p2h : Int), .int .u64 (p2l : Int)] 159))))
  have B3 := Lib.hid (hn.row (((B2.out.alloc (.cells #[.int .u64 (ph : Int), .int .u64 (pl : Int)] 159)).alloc (.cells #[.int .u64 (p2h : Int), .int .u64 (p2l : Int)] 159))))
  have R3 := Lib.hid (hn.row (((R2.out.alloc (.cells #[.int .u64 (ph : Int), .int .u64 (pl : Int)] 159)).alloc (.cells #[.int .u64 (p2h : Int), .int .u64 (p2l : Int)] 159))))
  have G3 := Lib.hid (hn.row (((G2.out.alloc (.cells #[.int .u64 (ph : Int), .int .u64 (pl : Int)] 159)).alloc (.cells #[.int .u64 (p2h : Int), .int .u64 (p2l : Int)] 159))))
  have P3 := Lib.hid (hn.row (((Row.new_at w2 159 [.int .u64 (ph : Int), .int .u64 (pl : Int)] (g := w2.heap.size) (by simp)).alloc (.cells #[.int .u64 (p2h : Int), .int .u64 (p2l : Int)] 159))))
  have N3 := Lib.hid ((((N2.out.alloc (.cells #[.int .u64 (ph : Int), .int .u64 (pl : Int)] 159)).alloc (.cells #[.int .u64 (p2h : Int), .int .u64 (p2l : Int)] 159))).trans hn)
  clear hn cA2_0 cA2_1 cA2_2 lA2 cB2_0 cB2_1 cB2_2 lB2 cR2_0 cR2_1 lR2 cG2_0 cG2_1 lG2 A2 B2 R2 G2 N2
  generalize w2.heap.size = z2 at *
  have cA3_0 : w3.cell? ⟨w.heap.size, 0, none⟩ = some (.int .u64 (ah : Int)) := A3.out.cell 0
  have cA3_1 : w3.cell? ⟨w.heap.size, 1, none⟩ = some (.int .u64 (al : Int)) := A3.out.cell 1
  have cA3_2 : w3.cell? ⟨w.heap.size, 2, none⟩ = some (.bool false) := A3.out.cell 2
  have lA3 : w.heap.size < w3.heap.size := A3.out.lt
  have cB3_0 : w3.cell? ⟨w.heap.size + 1, 0, none⟩ = some (.int .u64 (bh : Int)) := B3.out.cell 0
  have cB3_1 : w3.cell? ⟨w.heap.size + 1, 1, none⟩ = some (.int .u64 (bl : Int)) := B3.out.cell 1
  have cB3_2 : w3.cell? ⟨w.heap.size + 1, 2, none⟩ = some (.bool false) := B3.out.cell 2
  have lB3 : w.heap.size + 1 < w3.heap.size := B3.out.lt
  have cR3_0 : w3.cell? ⟨w.heap.size + 1 + 1, 0, none⟩ = some (.int .i64 0) := R3.out.cell 0
  have cR3_1 : w3.cell? ⟨w.heap.size + 1 + 1, 1, none⟩ = some (.int .i64 0) := R3.out.cell 1
  have lR3 : w.heap.size + 1 + 1 < w3.heap.size := R3.out.lt
  have cG3_0 : w3.cell? ⟨z1, 0, none⟩ = some (.int .u64 (gh : Int)) := G3.out.cell 0
  have cG3_1 : w3.cell? ⟨z1, 1, none⟩ = some (.int .u64 (gl : Int)) := G3.out.cell 1
  have lG3 : z1 < w3.heap.size := G3.out.lt
  have cP3_0 : w3.cell? ⟨z2, 0, none⟩ = some (.int .u64 (ph : Int)) := P3.out.cell 0
  have cP3_1 : w3.cell? ⟨z2, 1, none⟩ = some (.int .u64 (pl : Int)) := P3.out.cell 1
  have lP3 : z2 < w3.heap.size := P3.out.lt
  have hq : two qh ql = n.natAbs / Nat.gcd m.natAbs n.natAbs := by rw [hq, HG.out, HB.out.2.2.1]
  have hQ : IsW qh ql false (quo n (Nat.gcd m.natAbs n.natAbs)) := quo_isW GP.out.1 (Nat.gcd_dvd_right _ _) hqh hql hq HB.out.2.2.2
  have NU1 := Lib.hid (fun W => number_yes ph pl false _ HP.out Y1.out W)
  have NU2 := Lib.hid (fun W => number_no qh ql false _ hQ Y2.out W)
  clear hq hQ hqh hql OV2
  obtain ⟨p, hp⟩ : ∃ p, p = quo m (Nat.gcd m.natAbs n.natAbs) := ⟨_, rfl⟩
  obtain ⟨q, hq⟩ : ∃ q, q = quo n (Nat.gcd m.natAbs n.natAbs) := ⟨_, rfl⟩
  rw [← hp] at NU1 Y1
  rw [← hq] at Y2
  have HPQ := Lib.hid (And.intro hp hq)
  clear hp hq HP
  go_wp2_with fail
  refine (NU1.out _).mono ?_
  rintro e w4 ⟨rfl, hn⟩
  have A4 := Lib.hid (hn.row (((A3.out.alloc (.cells #[.int .u64 (qh : Int), .int .u64 (ql : Int)] 159)).alloc (.cells #[.int .u64 (q2h : Int), .int .u64 (q2l : Int)] 159))))
  have B4 := Lib.hid (hn.row (((B3.out.alloc (.cells #[.int .u64 (qh : Int), .int .u64 (ql : Int)] 159)).alloc (.cells #[.int .u64 (q2h : Int), .int .u64 (q2l : Int)] 159))))
  have R4 := Lib.hid (hn.row (((R3.out.alloc (.cells #[.int .u64 (qh : Int), .int .u64 (ql : Int)] 159)).alloc (.cells #[.int .u64 (q2h : Int), .int .u64 (q2l : Int)] 159))))
  have G4 := Lib.hid (hn.row (((G3.out.alloc (.cells #[.int .u64 (qh : Int), .int .u64 (ql : Int)] 159)).alloc (.cells #[.int .u64 (q2h : Int), .int .u64 (q2l : Int)] 159))))
  have P4 := Lib.hid (hn.row (((P3.out.alloc (.cells #[.int .u64 (qh : Int), .int .u64 (ql : Int)] 159)).alloc (.cells #[.int .u64 (q2h : Int), .int .u64 (q2l : Int)] 159))))
  have Q4 := Lib.hid (hn.row (((Row.new_at w3 159 [.int .u64 (qh : Int), .int .u64 (ql : Int)] (g := w3.heap.size) (by simp)).alloc (.cells #[.int .u64 (q2h : Int), .int .u64 (q2l : Int)] 159))))
  have N4 := Lib.hid ((((N3.out.alloc (.cells #[.int .u64 (qh : Int), .int .u64 (ql : Int)] 159)).alloc (.cells #[.int .u64 (q2h : Int), .int .u64 (q2l : Int)] 159))).trans hn)
  clear hn cA3_0 cA3_1 cA3_2 lA3 cB3_0 cB3_1 cB3_2 lB3 cR3_0 cR3_1 lR3 cG3_0 cG3_1 lG3 cP3_0 cP3_1 lP3 A3 B3 R3 G3 P3 N3
  generalize w3.heap.size = z3 at *
  have cA4_0 : w4.cell? ⟨w.heap.size, 0, none⟩ = some (.int .u64 (ah : Int)) := A4.out.cell 0
  have cA4_1 : w4.cell? ⟨w.heap.size, 1, none⟩ = some (.int .u64 (al : Int)) := A4.out.cell 1
  have cA4_2 : w4.cell? ⟨w.heap.size, 2, none⟩ = some (.bool false) := A4.out.cell 2
  have lA4 : w.heap.size < w4.heap.size := A4.out.lt
  have cB4_0 : w4.cell? ⟨w.heap.size + 1, 0, none⟩ = some (.int .u64 (bh : Int)) := B4.out.cell 0
  have cB4_1 : w4.cell? ⟨w.heap.size + 1, 1, none⟩ = some (.int .u64 (bl : Int)) := B4.out.cell 1
  have cB4_2 : w4.cell? ⟨w.heap.size + 1, 2, none⟩ = some (.bool false) := B4.out.cell 2
  have lB4 : w.heap.size + 1 < w4.heap.size := B4.out.lt
  have cR4_0 : w4.cell? ⟨w.heap.size + 1 + 1, 0, none⟩ = some (.int .i64 0) := R4.out.cell 0
  have cR4_1 : w4.cell? ⟨w.heap.size + 1 + 1, 1, none⟩ = some (.int .i64 0) := R4.out.cell 1
  have lR4 : w.heap.size + 1 + 1 < w4.heap.size := R4.out.lt
  have cG4_0 : w4.cell? ⟨z1, 0, none⟩ = some (.int .u64 (gh : Int)) := G4.out.cell 0
  have cG4_1 : w4.cell? ⟨z1, 1, none⟩ = some (.int .u64 (gl : Int)) := G4.out.cell 1
  have lG4 : z1 < w4.heap.size := G4.out.lt
  have cP4_0 : w4.cell? ⟨z2, 0, none⟩ = some (.int .u64 (ph : Int)) := P4.out.cell 0
  have cP4_1 : w4.cell? ⟨z2, 1, none⟩ = some (.int .u64 (pl : Int)) := P4.out.cell 1
  have lP4 : z2 < w4.heap.size := P4.out.lt
  have cQ4_0 : w4.cell? ⟨z3, 0, none⟩ = some (.int .u64 (qh : Int)) := Q4.out.cell 0
  have cQ4_1 : w4.cell? ⟨z3, 1, none⟩ = some (.int .u64 (ql : Int)) := Q4.out.cell 1
  have lQ4 : z3 < w4.heap.size := Q4.out.lt
  go_wp2_with fail
  refine (NU2.out _).mono ?_
  rintro e w5 ⟨rfl, hn⟩
  have A5 := Lib.hid (hn.row (A4.out))
  have B5 := Lib.hid (hn.row (B4.out))
  have R5 := Lib.hid (hn.row (R4.out))
  have G5 := Lib.hid (hn.row (G4.out))
  have P5 := Lib.hid (hn.row (P4.out))
  have Q5 := Lib.hid (hn.row (Q4.out))
  have N5 := Lib.hid ((N4.out).trans hn)
  clear hn cA4_0 cA4_1 cA4_2 lA4 cB4_0 cB4_1 cB4_2 lB4 cR4_0 cR4_1 lR4 cG4_0 cG4_1 lG4 cP4_0 cP4_1 lP4 cQ4_0 cQ4_1 lQ4 A4 B4 R4 G4 P4 Q4 N4
  have cA5_0 : w5.cell? ⟨w.heap.size, 0, none⟩ = some (.int .u64 (ah : Int)) := A5.out.cell 0
  have cA5_1 : w5.cell? ⟨w.heap.size, 1, none⟩ = some (.int .u64 (al : Int)) := A5.out.cell 1
  have cA5_2 : w5.cell? ⟨w.heap.size, 2, none⟩ = some (.bool false) := A5.out.cell 2
  have lA5 : w.heap.size < w5.heap.size := A5.out.lt
  have cB5_0 : w5.cell? ⟨w.heap.size + 1, 0, none⟩ = some (.int .u64 (bh : Int)) := B5.out.cell 0
  have cB5_1 : w5.cell? ⟨w.heap.size + 1, 1, none⟩ = some (.int .u64 (bl : Int)) := B5.out.cell 1
  have cB5_2 : w5.cell? ⟨w.heap.size + 1, 2, none⟩ = some (.bool false) := B5.out.cell 2
  have lB5 : w.heap.size + 1 < w5.heap.size := B5.out.lt
  have cR5_0 : w5.cell? ⟨w.heap.size + 1 + 1, 0, none⟩ = some (.int .i64 0) := R5.out.cell 0
  have cR5_1 : w5.cell? ⟨w.heap.size + 1 + 1, 1, none⟩ = some (.int .i64 0) := R5.out.cell 1
  have lR5 : w.heap.size + 1 + 1 < w5.heap.size := R5.out.lt
  have cG5_0 : w5.cell? ⟨z1, 0, none⟩ = some (.int .u64 (gh : Int)) := G5.out.cell 0
  have cG5_1 : w5.cell? ⟨z1, 1, none⟩ = some (.int .u64 (gl : Int)) := G5.out.cell 1
  have lG5 : z1 < w5.heap.size := G5.out.lt
  have cP5_0 : w5.cell? ⟨z2, 0, none⟩ = some (.int .u64 (ph : Int)) := P5.out.cell 0
  have cP5_1 : w5.cell? ⟨z2, 1, none⟩ = some (.int .u64 (pl : Int)) := P5.out.cell 1
  have lP5 : z2 < w5.heap.size := P5.out.lt
  have cQ5_0 : w5.cell? ⟨z3, 0, none⟩ = some (.int .u64 (qh : Int)) := Q5.out.cell 0
  have cQ5_1 : w5.cell? ⟨z3, 1, none⟩ = some (.int .u64 (ql : Int)) := Q5.out.cell 1
  have lQ5 : z3 < w5.heap.size := Q5.out.lt
  have fR5_0 : w5.frozen? ⟨w.heap.size + 1 + 1, 0, none⟩ = false := R5.out.free 0
  have fR5_1 : w5.frozen? ⟨w.heap.size + 1 + 1, 1, none⟩ = false := R5.out.free 1
  have R9 := Lib.hid ((R5.out.set 0 (.int .i64 0)).set 1 (.int .i64 0))
  have N9 := Lib.hid (new_set (new_set N5.out (w.heap.size + 1 + 1) (by omega) 0 (.int .i64 0)) (w.heap.size + 1 + 1) (by omega) 1 (.int .i64 0))
  clear NU1 NU2 A5 B5 G5 P5 Q5
  go_wp2_with fail
  generalize (w5.setCell ⟨w.heap.size + 1 + 1, 0, none⟩ (.int .i64 0)).setCell ⟨w.heap.size + 1 + 1, 1, none⟩ (.int .i64 0) = w9 at *
  have r0 : w9.cell? ⟨w.heap.size + 1 + 1, 0, none⟩ = some (.int .i64 0) := R9.out.cell 0
  have r1 : w9.cell? ⟨w.heap.size + 1 + 1, 1, none⟩ = some (.int .i64 0) := R9.out.cell 1
  exact bodyPost_ret (v := .tuple #[.agg #[.int .i64 0, .int .i64 0], .int .i64 20]) (by simp [results, Try.results115, go_sem, r0, r1]) rfl
    ⟨N9.out, by rw [← HPQ.out.1, ← HPQ.out.2]; exact .inr ⟨fun h => Y2.out h.2, rfl⟩⟩
set_option maxRecDepth 100000 in
set_option maxHeartbeats 1000000 in
theorem made_fny (ah al bh bl : Nat) (m n : Int) (ha : IsW ah al false m) (hb : IsW bh bl false n) (hn0 : 0 < n) (hs : two bh bl ≤ 170141183460469231731687303715884105728)
    (y1 : ¬ In64 (quo m (Nat.gcd m.natAbs n.natAbs))) (y2 : In64 (quo n (Nat.gcd m.natAbs n.natAbs))) (w : World) :
    Calls Try.prog 115 #[.agg #[.int .u64 ah, .int .u64 al, .bool false], .agg #[.int .u64 bh, .int .u64 bl, .bool false]] w (MadeRes m n w) := by
  have hgp : 0 < Nat.gcd m.natAbs n.natAbs := Nat.gcd_pos_of_pos_right _ (by omega)
  have hgl : Nat.gcd m.natAbs n.natAbs ≤ 170141183460469231731687303715884105728 := Nat.le_trans (Nat.le_of_dvd (by omega) (Nat.gcd_dvd_right _ _)) (by rw [← hb.2.2.1]; exact hs)
  have CO := Lib.hid (fun W => common_any ah al bh bl ha.1 ha.2.1 hb.1 hb.2.1 hs W)
  have GP := Lib.hid (And.intro hgp hgl)
  have HA := Lib.hid ha
  have HB := Lib.hid hb
  have HN0 := Lib.hid hn0
  have Y1 := Lib.hid y1
  have Y2 := Lib.hid y2
  clear hgp hgl ha hb hn0 hs y1 y2
  go_enter Try.func115, Try.ntmps115
  go_wp2_with fail
  refine (CO.out _).mono ?_
  rintro e w1 ⟨gh, gl, hgh, hgl, hg, rfl, hn⟩
  have hg : two gh gl = Nat.gcd m.natAbs n.natAbs := by rw [hg, HA.out.2.2.1, HB.out.2.2.1]
  have hg1 : 0 < two gh gl := by rw [hg]; exact GP.out.1
  have hg2 : two gh gl ≤ 170141183460469231731687303715884105728 := by rw [hg]; exact GP.out.2
  have OV1 := Lib.hid (fun W => over_any ah al gh gl HA.out.1 HA.out.2.1 hgh hgl hg1 hg2 W)
  have OV2 := Lib.hid (fun W => over_any bh bl gh gl HB.out.1 HB.out.2.1 hgh hgl hg1 hg2 W)
  have HG := Lib.hid hg
  clear hg hg1 hg2 hgh hgl CO
  have A1 := Lib.hid (hn.row ((((Row.new_at w 161 [.int .u64 (ah : Int), .int .u64 (al : Int), .bool false] (g := w.heap.size) (by simp)).alloc (.cells #[.int .u64 (bh : Int), .int .u64 (bl : Int), .bool false] 161)).alloc (.cells #[.int .i64 0, .int .i64 0] 75))))
  have B1 := Lib.hid (hn.row (((Row.new_at (w.alloc (.cells #[.int .u64 (ah : Int), .int .u64 (al : Int), .bool false] 161)) 161 [.int .u64 (bh : Int), .int .u64 (bl : Int), .bool false] (g := w.heap.size + 1) (by simp)).alloc (.cells #[.int .i64 0, .int .i64 0] 75))))
  have R1 := Lib.hid (hn.row ((Row.new_at ((w.alloc (.cells #[.int .u64 (ah : Int), .int .u64 (al : Int), .bool false] 161)).alloc (.cells #[.int .u64 (bh : Int), .int .u64 (bl : Int), .bool false] 161)) 75 [.int .i64 0, .int .i64 0] (g := w.heap.size + 1 + 1) (by simp))))
  have N1 := Lib.hid ((((((New.refl w).alloc (.cells #[.int .u64 (ah : Int), .int .u64 (al : Int), .bool false] 161)).alloc (.cells #[.int .u64 (bh : Int), .int .u64 (bl : Int), .bool false] 161)).alloc (.cells #[.int .i64 0, .int .i64 0] 75))).trans hn)
  clear hn
  have cA1_0 : w1.cell? ⟨w.heap.size, 0, none⟩ = some (.int .u64 (ah : Int)) := A1.out.cell 0
  have cA1_1 : w1.cell? ⟨w.heap.size, 1, none⟩ = some (.int .u64 (al : Int)) := A1.out.cell 1
  have cA1_2 : w1.cell? ⟨w.heap.size, 2, none⟩ = some (.bool false) := A1.out.cell 2
  have lA1 : w.heap.size < w1.heap.size := A1.out.lt
  have cB1_0 : w1.cell? ⟨w.heap.size + 1, 0, none⟩ = some (.int .u64 (bh : Int)) := B1.out.cell 0
  have cB1_1 : w1.cell? ⟨w.heap.size + 1, 1, none⟩ = some (.int .u64 (bl : Int)) := B1.out.cell 1
  have cB1_2 : w1.cell? ⟨w.heap.size + 1, 2, none⟩ = some (.bool false) := B1.out.cell 2
  have lB1 : w.heap.size + 1 < w1.heap.size := B1.out.lt
  have cR1_0 : w1.cell? ⟨w.heap.size + 1 + 1, 0, none⟩ = some (.int .i64 0) := R1.out.cell 0
  have cR1_1 : w1.cell? ⟨w.heap.size + 1 + 1, 1, none⟩ = some (.int .i64 0) := R1.out.cell 1
  have lR1 : w.heap.size + 1 + 1 < w1.heap.size := R1.out.lt
  go_wp2_with fail
  refine (OV1.out _).mono ?_
  rintro e w2 ⟨ph, pl, p2h, p2l, hph, hpl, _, _, hp, _, rfl, hn⟩
  have A2 := Lib.hid (hn.row ((A1.out.alloc (.cells #[.int .u64 (gh : Int), .int .u64 (gl : Int)] 159))))
  have B2 := Lib.hid (hn.row ((B1.out.alloc (.cells #[.int .u64 (gh : Int), .int .u64 (gl : Int)] 159))))
  have R2 := Lib.hid (hn.row ((R1.out.alloc (.cells #[.int .u64 (gh : Int), .int .u64 (gl : Int)] 159))))
  have G2 := Lib.hid (hn.row ((Row.new_at w1 159 [.int .u64 (gh : Int), .int .u64 (gl : Int)] (g := w1.heap.size) (by simp))))
  have N2 := Lib.hid (((N1.out.alloc (.cells #[.int .u64 (gh : Int), .int .u64 (gl : Int)] 159))).trans hn)
  clear hn cA1_0 cA1_1 cA1_2 lA1 cB1_0 cB1_1 cB1_2 lB1 cR1_0 cR1_1 lR1 A1 B1 R1 N1
  generalize w1.heap.size = z1 at *
  have cA2_0 : w2.cell? ⟨w.heap.size, 0, none⟩ = some (.int .u64 (ah : Int)) := A2.out.cell 0
  have cA2_1 : w2.cell? ⟨w.heap.size, 1, none⟩ = some (.int .u64 (al : Int)) := A2.out.cell 1
  have cA2_2 : w2.cell? ⟨w.heap.size, 2, none⟩ = some (.bool false) := A2.out.cell 2
  have lA2 : w.heap.size < w2.heap.size := A2.out.lt
  have cB2_0 : w2.cell? ⟨w.heap.size + 1, 0, none⟩ = some (.int .u64 (bh : Int)) := B2.out.cell 0
  have cB2_1 : w2.cell? ⟨w.heap.size + 1, 1, none⟩ = some (.int .u64 (bl : Int)) := B2.out.cell 1
  have cB2_2 : w2.cell? ⟨w.heap.size + 1, 2, none⟩ = some (.bool false) := B2.out.cell 2
  have lB2 : w.heap.size + 1 < w2.heap.size := B2.out.lt
  have cR2_0 : w2.cell? ⟨w.heap.size + 1 + 1, 0, none⟩ = some (.int .i64 0) := R2.out.cell 0
  have cR2_1 : w2.cell? ⟨w.heap.size + 1 + 1, 1, none⟩ = some (.int .i64 0) := R2.out.cell 1
  have lR2 : w.heap.size + 1 + 1 < w2.heap.size := R2.out.lt
  have cG2_0 : w2.cell? ⟨z1, 0, none⟩ = some (.int .u64 (gh : Int)) := G2.out.cell 0
  have cG2_1 : w2.cell? ⟨z1, 1, none⟩ = some (.int .u64 (gl : Int)) := G2.out.cell 1
  have lG2 : z1 < w2.heap.size := G2.out.lt
  have hp : two ph pl = m.natAbs / Nat.gcd m.natAbs n.natAbs := by rw [hp, HG.out, HA.out.2.2.1]
  have hP : IsW ph pl false (quo m (Nat.gcd m.natAbs n.natAbs)) := quo_isW GP.out.1 (Nat.gcd_dvd_left _ _) hph hpl hp HA.out.2.2.2
  have HP := Lib.hid hP
  clear hp hP hph hpl OV1
  go_wp2_with fail
  refine (OV2.out _).mono ?_
  rintro e w3 ⟨qh, ql, q2h, q2l, hqh, hql, _, _, hq, _, rfl, hn⟩
  have A3 := Lib.hid (hn.row (((A2.out.alloc (.cells #[.int .u64 (ph : Int), .int .u64 (pl : Int)] 159)).alloc (.cells #[.int .u64 (p2h : Int), .int .u64 (p2l : Int)] 159))))
  have B3 := Lib.hid (hn.row (((B2.out.alloc (.cells #[.int .u64 (ph : Int), .int .u64 (pl : Int)] 159)).alloc (.cells #[.int .u64 (p2h : Int), .int .u64 (p2l : Int)] 159))))
  have R3 := Lib.hid (hn.row (((R2.out.alloc (.cells #[.int .u64 (ph : Int), .int .u64 (pl : Int)] 159)).alloc (.cells #[.int .u64 (p2h : Int), .int .u64 (p2l : Int)] 159))))
  have G3 := Lib.hid (hn.row (((G2.out.alloc (.cells #[.int .u64 (ph : Int), .int .u64 (pl : Int)] 159)).alloc (.cells #[.int .u64 (p2h : Int), .int .u64 (p2l : Int)] 159))))
  have P3 := Lib.hid (hn.row (((Row.new_at w2 159 [.int .u64 (ph : Int), .int .u64 (pl : Int)] (g := w2.heap.size) (by simp)).alloc (.cells #[.int .u64 (p2h : Int), .int .u64 (p2l : Int)] 159))))
  have N3 := Lib.hid ((((N2.out.alloc (.cells #[.int .u64 (ph : Int), .int .u64 (pl : Int)] 159)).alloc (.cells #[.int .u64 (p2h : Int), .int .u64 (p2l : Int)] 159))).trans hn)
  clear hn cA2_0 cA2_1 cA2_2 lA2 cB2_0 cB2_1 cB2_2 lB2 cR2_0 cR2_1 lR2 cG2_0 cG2_1 lG2 A2 B2 R2 G2 N2
  generalize w2.heap.size = z2 at *
  have cA3_0 : w3.cell? ⟨w.heap.size, 0, none⟩ = some (.int .u64 (ah : Int)) := A3.out.cell 0
  have cA3_1 : w3.cell? ⟨w.heap.size, 1, none⟩ = some (.int .u64 (al : Int)) := A3.out.cell 1
  have cA3_2 : w3.cell? ⟨w.heap.size, 2, none⟩ = some (.bool false) := A3.out.cell 2
  have lA3 : w.heap.size < w3.heap.size := A3.out.lt
  have cB3_0 : w3.cell? ⟨w.heap.size + 1, 0, none⟩ = some (.int .u64 (bh : Int)) := B3.out.cell 0
  have cB3_1 : w3.cell? ⟨w.heap.size + 1, 1, none⟩ = some (.int .u64 (bl : Int)) := B3.out.cell 1
  have cB3_2 : w3.cell? ⟨w.heap.size + 1, 2, none⟩ = some (.bool false) := B3.out.cell 2
  have lB3 : w.heap.size + 1 < w3.heap.size := B3.out.lt
  have cR3_0 : w3.cell? ⟨w.heap.size + 1 + 1, 0, none⟩ = some (.int .i64 0) := R3.out.cell 0
  have cR3_1 : w3.cell? ⟨w.heap.size + 1 + 1, 1, none⟩ = some (.int .i64 0) := R3.out.cell 1
  have lR3 : w.heap.size + 1 + 1 < w3.heap.size := R3.out.lt
  have cG3_0 : w3.cell? ⟨z1, 0, none⟩ = some (.int .u64 (gh : Int)) := G3.out.cell 0
  have cG3_1 : w3.cell? ⟨z1, 1, none⟩ = some (.int .u64 (gl : Int)) := G3.out.cell 1
  have lG3 : z1 < w3.heap.size := G3.out.lt
  have cP3_0 : w3.cell? ⟨z2, 0, none⟩ = some (.int .u64 (ph : Int)) := P3.out.cell 0
  have cP3_1 : w3.cell? ⟨z2, 1, none⟩ = some (.int .u64 (pl : Int)) := P3.out.cell 1
  have lP3 : z2 < w3.heap.size := P3.out.lt
  have hq : two qh ql = n.natAbs / Nat.gcd m.natAbs n.natAbs := by rw [hq, HG.out, HB.out.2.2.1]
  have hQ : IsW qh ql false (quo n (Nat.gcd m.natAbs n.natAbs)) := quo_isW GP.out.1 (Nat.gcd_dvd_right _ _) hqh hql hq HB.out.2.2.2
  have NU1 := Lib.hid (fun W => number_no ph pl false _ HP.out Y1.out W)
  have NU2 := Lib.hid (fun W => number_yes qh ql false _ hQ Y2.out W)
  clear hq hQ hqh hql OV2
  obtain ⟨p, hp⟩ : ∃ p, p = quo m (Nat.gcd m.natAbs n.natAbs) := ⟨_, rfl⟩
  obtain ⟨q, hq⟩ : ∃ q, q = quo n (Nat.gcd m.natAbs n.natAbs) := ⟨_, rfl⟩
  rw [← hp] at Y1
  rw [← hq] at NU2 Y2
  have HPQ := Lib.hid (And.intro hp hq)
  clear hp hq HP
  go_wp2_with fail
  refine (NU1.out _).mono ?_
  rintro e w4 ⟨rfl, hn⟩
  have A4 := Lib.hid (hn.row (((A3.out.alloc (.cells #[.int .u64 (qh : Int), .int .u64 (ql : Int)] 159)).alloc (.cells #[.int .u64 (q2h : Int), .int .u64 (q2l : Int)] 159))))
  have B4 := Lib.hid (hn.row (((B3.out.alloc (.cells #[.int .u64 (qh : Int), .int .u64 (ql : Int)] 159)).alloc (.cells #[.int .u64 (q2h : Int), .int .u64 (q2l : Int)] 159))))
  have R4 := Lib.hid (hn.row (((R3.out.alloc (.cells #[.int .u64 (qh : Int), .int .u64 (ql : Int)] 159)).alloc (.cells #[.int .u64 (q2h : Int), .int .u64 (q2l : Int)] 159))))
  have G4 := Lib.hid (hn.row (((G3.out.alloc (.cells #[.int .u64 (qh : Int), .int .u64 (ql : Int)] 159)).alloc (.cells #[.int .u64 (q2h : Int), .int .u64 (q2l : Int)] 159))))
  have P4 := Lib.hid (hn.row (((P3.out.alloc (.cells #[.int .u64 (qh : Int), .int .u64 (ql : Int)] 159)).alloc (.cells #[.int .u64 (q2h : Int), .int .u64 (q2l : Int)] 159))))
  have Q4 := Lib.hid (hn.row (((Row.new_at w3 159 [.int .u64 (qh : Int), .int .u64 (ql : Int)] (g := w3.heap.size) (by simp)).alloc (.cells #[.int .u64 (q2h : Int), .int .u64 (q2l : Int)] 159))))
  have N4 := Lib.hid ((((N3.out.alloc (.cells #[.int .u64 (qh : Int), .int .u64 (ql : Int)] 159)).alloc (.cells #[.int .u64 (q2h : Int), .int .u64 (q2l : Int)] 159))).trans hn)
  clear hn cA3_0 cA3_1 cA3_2 lA3 cB3_0 cB3_1 cB3_2 lB3 cR3_0 cR3_1 lR3 cG3_0 cG3_1 lG3 cP3_0 cP3_1 lP3 A3 B3 R3 G3 P3 N3
  generalize w3.heap.size = z3 at *
  have cA4_0 : w4.cell? ⟨w.heap.size, 0, none⟩ = some (.int .u64 (ah : Int)) := A4.out.cell 0
  have cA4_1 : w4.cell? ⟨w.heap.size, 1, none⟩ = some (.int .u64 (al : Int)) := A4.out.cell 1
  have cA4_2 : w4.cell? ⟨w.heap.size, 2, none⟩ = some (.bool false) := A4.out.cell 2
  have lA4 : w.heap.size < w4.heap.size := A4.out.lt
  have cB4_0 : w4.cell? ⟨w.heap.size + 1, 0, none⟩ = some (.int .u64 (bh : Int)) := B4.out.cell 0
  have cB4_1 : w4.cell? ⟨w.heap.size + 1, 1, none⟩ = some (.int .u64 (bl : Int)) := B4.out.cell 1
  have cB4_2 : w4.cell? ⟨w.heap.size + 1, 2, none⟩ = some (.bool false) := B4.out.cell 2
  have lB4 : w.heap.size + 1 < w4.heap.size := B4.out.lt
  have cR4_0 : w4.cell? ⟨w.heap.size + 1 + 1, 0, none⟩ = some (.int .i64 0) := R4.out.cell 0
  have cR4_1 : w4.cell? ⟨w.heap.size + 1 + 1, 1, none⟩ = some (.int .i64 0) := R4.out.cell 1
  have lR4 : w.heap.size + 1 + 1 < w4.heap.size := R4.out.lt
  have cG4_0 : w4.cell? ⟨z1, 0, none⟩ = some (.int .u64 (gh : Int)) := G4.out.cell 0
  have cG4_1 : w4.cell? ⟨z1, 1, none⟩ = some (.int .u64 (gl : Int)) := G4.out.cell 1
  have lG4 : z1 < w4.heap.size := G4.out.lt
  have cP4_0 : w4.cell? ⟨z2, 0, none⟩ = some (.int .u64 (ph : Int)) := P4.out.cell 0
  have cP4_1 : w4.cell? ⟨z2, 1, none⟩ = some (.int .u64 (pl : Int)) := P4.out.cell 1
  have lP4 : z2 < w4.heap.size := P4.out.lt
  have cQ4_0 : w4.cell? ⟨z3, 0, none⟩ = some (.int .u64 (qh : Int)) := Q4.out.cell 0
  have cQ4_1 : w4.cell? ⟨z3, 1, none⟩ = some (.int .u64 (ql : Int)) := Q4.out.cell 1
  have lQ4 : z3 < w4.heap.size := Q4.out.lt
  go_wp2_with fail
  refine (NU2.out _).mono ?_
  rintro e w5 ⟨rfl, hn⟩
  have A5 := Lib.hid (hn.row (A4.out))
  have B5 := Lib.hid (hn.row (B4.out))
  have R5 := Lib.hid (hn.row (R4.out))
  have G5 := Lib.hid (hn.row (G4.out))
  have P5 := Lib.hid (hn.row (P4.out))
  have Q5 := Lib.hid (hn.row (Q4.out))
  have N5 := Lib.hid ((N4.out).trans hn)
  clear hn cA4_0 cA4_1 cA4_2 lA4 cB4_0 cB4_1 cB4_2 lB4 cR4_0 cR4_1 lR4 cG4_0 cG4_1 lG4 cP4_0 cP4_1 lP4 cQ4_0 cQ4_1 lQ4 A4 B4 R4 G4 P4 Q4 N4
  have cA5_0 : w5.cell? ⟨w.heap.size, 0, none⟩ = some (.int .u64 (ah : Int)) := A5.out.cell 0
  have cA5_1 : w5.cell? ⟨w.heap.size, 1, none⟩ = some (.int .u64 (al : Int)) := A5.out.cell 1
  have cA5_2 : w5.cell? ⟨w.heap.size, 2, none⟩ = some (.bool false) := A5.out.cell 2
  have lA5 : w.heap.size < w5.heap.size := A5.out.lt
  have cB5_0 : w5.cell? ⟨w.heap.size + 1, 0, none⟩ = some (.int .u64 (bh : Int)) := B5.out.cell 0
  have cB5_1 : w5.cell? ⟨w.heap.size + 1, 1, none⟩ = some (.int .u64 (bl : Int)) := B5.out.cell 1
  have cB5_2 : w5.cell? ⟨w.heap.size + 1, 2, none⟩ = some (.bool false) := B5.out.cell 2
  have lB5 : w.heap.size + 1 < w5.heap.size := B5.out.lt
  have cR5_0 : w5.cell? ⟨w.heap.size + 1 + 1, 0, none⟩ = some (.int .i64 0) := R5.out.cell 0
  have cR5_1 : w5.cell? ⟨w.heap.size + 1 + 1, 1, none⟩ = some (.int .i64 0) := R5.out.cell 1
  have lR5 : w.heap.size + 1 + 1 < w5.heap.size := R5.out.lt
  have cG5_0 : w5.cell? ⟨z1, 0, none⟩ = some (.int .u64 (gh : Int)) := G5.out.cell 0
  have cG5_1 : w5.cell? ⟨z1, 1, none⟩ = some (.int .u64 (gl : Int)) := G5.out.cell 1
  have lG5 : z1 < w5.heap.size := G5.out.lt
  have cP5_0 : w5.cell? ⟨z2, 0, none⟩ = some (.int .u64 (ph : Int)) := P5.out.cell 0
  have cP5_1 : w5.cell? ⟨z2, 1, none⟩ = some (.int .u64 (pl : Int)) := P5.out.cell 1
  have lP5 : z2 < w5.heap.size := P5.out.lt
  have cQ5_0 : w5.cell? ⟨z3, 0, none⟩ = some (.int .u64 (qh : Int)) := Q5.out.cell 0
  have cQ5_1 : w5.cell? ⟨z3, 1, none⟩ = some (.int .u64 (ql : Int)) := Q5.out.cell 1
  have lQ5 : z3 < w5.heap.size := Q5.out.lt
  have fR5_0 : w5.frozen? ⟨w.heap.size + 1 + 1, 0, none⟩ = false := R5.out.free 0
  have fR5_1 : w5.frozen? ⟨w.heap.size + 1 + 1, 1, none⟩ = false := R5.out.free 1
  have R9 := Lib.hid ((R5.out.set 0 (.int .i64 0)).set 1 (.int .i64 0))
  have N9 := Lib.hid (new_set (new_set N5.out (w.heap.size + 1 + 1) (by omega) 0 (.int .i64 0)) (w.heap.size + 1 + 1) (by omega) 1 (.int .i64 0))
  clear NU1 NU2 A5 B5 G5 P5 Q5
  go_wp2_with fail
  generalize (w5.setCell ⟨w.heap.size + 1 + 1, 0, none⟩ (.int .i64 0)).setCell ⟨w.heap.size + 1 + 1, 1, none⟩ (.int .i64 0) = w9 at *
  have r0 : w9.cell? ⟨w.heap.size + 1 + 1, 0, none⟩ = some (.int .i64 0) := R9.out.cell 0
  have r1 : w9.cell? ⟨w.heap.size + 1 + 1, 1, none⟩ = some (.int .i64 0) := R9.out.cell 1
  exact bodyPost_ret (v := .tuple #[.agg #[.int .i64 0, .int .i64 0], .int .i64 20]) (by simp [results, Try.results115, go_sem, r0, r1]) rfl
    ⟨N9.out, by rw [← HPQ.out.1, ← HPQ.out.2]; exact .inr ⟨fun h => Y1.out h.1, rfl⟩⟩
set_option maxRecDepth 100000 in
set_option maxHeartbeats 1000000 in
theorem made_fnn (ah al bh bl : Nat) (m n : Int) (ha : IsW ah al false m) (hb : IsW bh bl false n) (hn0 : 0 < n) (hs : two bh bl ≤ 170141183460469231731687303715884105728)
    (y1 : ¬ In64 (quo m (Nat.gcd m.natAbs n.natAbs))) (y2 : ¬ In64 (quo n (Nat.gcd m.natAbs n.natAbs))) (w : World) :
    Calls Try.prog 115 #[.agg #[.int .u64 ah, .int .u64 al, .bool false], .agg #[.int .u64 bh, .int .u64 bl, .bool false]] w (MadeRes m n w) := by
  have hgp : 0 < Nat.gcd m.natAbs n.natAbs := Nat.gcd_pos_of_pos_right _ (by omega)
  have hgl : Nat.gcd m.natAbs n.natAbs ≤ 170141183460469231731687303715884105728 := Nat.le_trans (Nat.le_of_dvd (by omega) (Nat.gcd_dvd_right _ _)) (by rw [← hb.2.2.1]; exact hs)
  have CO := Lib.hid (fun W => common_any ah al bh bl ha.1 ha.2.1 hb.1 hb.2.1 hs W)
  have GP := Lib.hid (And.intro hgp hgl)
  have HA := Lib.hid ha
  have HB := Lib.hid hb
  have HN0 := Lib.hid hn0
  have Y1 := Lib.hid y1
  have Y2 := Lib.hid y2
  clear hgp hgl ha hb hn0 hs y1 y2
  go_enter Try.func115, Try.ntmps115
  go_wp2_with fail
  refine (CO.out _).mono ?_
  rintro e w1 ⟨gh, gl, hgh, hgl, hg, rfl, hn⟩
  have hg : two gh gl = Nat.gcd m.natAbs n.natAbs := by rw [hg, HA.out.2.2.1, HB.out.2.2.1]
  have hg1 : 0 < two gh gl := by rw [hg]; exact GP.out.1
  have hg2 : two gh gl ≤ 170141183460469231731687303715884105728 := by rw [hg]; exact GP.out.2
  have OV1 := Lib.hid (fun W => over_any ah al gh gl HA.out.1 HA.out.2.1 hgh hgl hg1 hg2 W)
  have OV2 := Lib.hid (fun W => over_any bh bl gh gl HB.out.1 HB.out.2.1 hgh hgl hg1 hg2 W)
  have HG := Lib.hid hg
  clear hg hg1 hg2 hgh hgl CO
  have A1 := Lib.hid (hn.row ((((Row.new_at w 161 [.int .u64 (ah : Int), .int .u64 (al : Int), .bool false] (g := w.heap.size) (by simp)).alloc (.cells #[.int .u64 (bh : Int), .int .u64 (bl : Int), .bool false] 161)).alloc (.cells #[.int .i64 0, .int .i64 0] 75))))
  have B1 := Lib.hid (hn.row (((Row.new_at (w.alloc (.cells #[.int .u64 (ah : Int), .int .u64 (al : Int), .bool false] 161)) 161 [.int .u64 (bh : Int), .int .u64 (bl : Int), .bool false] (g := w.heap.size + 1) (by simp)).alloc (.cells #[.int .i64 0, .int .i64 0] 75))))
  have R1 := Lib.hid (hn.row ((Row.new_at ((w.alloc (.cells #[.int .u64 (ah : Int), .int .u64 (al : Int), .bool false] 161)).alloc (.cells #[.int .u64 (bh : Int), .int .u64 (bl : Int), .bool false] 161)) 75 [.int .i64 0, .int .i64 0] (g := w.heap.size + 1 + 1) (by simp))))
  have N1 := Lib.hid ((((((New.refl w).alloc (.cells #[.int .u64 (ah : Int), .int .u64 (al : Int), .bool false] 161)).alloc (.cells #[.int .u64 (bh : Int), .int .u64 (bl : Int), .bool false] 161)).alloc (.cells #[.int .i64 0, .int .i64 0] 75))).trans hn)
  clear hn
  have cA1_0 : w1.cell? ⟨w.heap.size, 0, none⟩ = some (.int .u64 (ah : Int)) := A1.out.cell 0
  have cA1_1 : w1.cell? ⟨w.heap.size, 1, none⟩ = some (.int .u64 (al : Int)) := A1.out.cell 1
  have cA1_2 : w1.cell? ⟨w.heap.size, 2, none⟩ = some (.bool false) := A1.out.cell 2
  have lA1 : w.heap.size < w1.heap.size := A1.out.lt
  have cB1_0 : w1.cell? ⟨w.heap.size + 1, 0, none⟩ = some (.int .u64 (bh : Int)) := B1.out.cell 0
  have cB1_1 : w1.cell? ⟨w.heap.size + 1, 1, none⟩ = some (.int .u64 (bl : Int)) := B1.out.cell 1
  have cB1_2 : w1.cell? ⟨w.heap.size + 1, 2, none⟩ = some (.bool false) := B1.out.cell 2
  have lB1 : w.heap.size + 1 < w1.heap.size := B1.out.lt
  have cR1_0 : w1.cell? ⟨w.heap.size + 1 + 1, 0, none⟩ = some (.int .i64 0) := R1.out.cell 0
  have cR1_1 : w1.cell? ⟨w.heap.size + 1 + 1, 1, none⟩ = some (.int .i64 0) := R1.out.cell 1
  have lR1 : w.heap.size + 1 + 1 < w1.heap.size := R1.out.lt
  go_wp2_with fail
  refine (OV1.out _).mono ?_
  rintro e w2 ⟨ph, pl, p2h, p2l, hph, hpl, _, _, hp, _, rfl, hn⟩
  have A2 := Lib.hid (hn.row ((A1.out.alloc (.cells #[.int .u64 (gh : Int), .int .u64 (gl : Int)] 159))))
  have B2 := Lib.hid (hn.row ((B1.out.alloc (.cells #[.int .u64 (gh : Int), .int .u64 (gl : Int)] 159))))
  have R2 := Lib.hid (hn.row ((R1.out.alloc (.cells #[.int .u64 (gh : Int), .int .u64 (gl : Int)] 159))))
  have G2 := Lib.hid (hn.row ((Row.new_at w1 159 [.int .u64 (gh : Int), .int .u64 (gl : Int)] (g := w1.heap.size) (by simp))))
  have N2 := Lib.hid (((N1.out.alloc (.cells #[.int .u64 (gh : Int), .int .u64 (gl : Int)] 159))).trans hn)
  clear hn cA1_0 cA1_1 cA1_2 lA1 cB1_0 cB1_1 cB1_2 lB1 cR1_0 cR1_1 lR1 A1 B1 R1 N1
  generalize w1.heap.size = z1 at *
  have cA2_0 : w2.cell? ⟨w.heap.size, 0, none⟩ = some (.int .u64 (ah : Int)) := A2.out.cell 0
  have cA2_1 : w2.cell? ⟨w.heap.size, 1, none⟩ = some (.int .u64 (al : Int)) := A2.out.cell 1
  have cA2_2 : w2.cell? ⟨w.heap.size, 2, none⟩ = some (.bool false) := A2.out.cell 2
  have lA2 : w.heap.size < w2.heap.size := A2.out.lt
  have cB2_0 : w2.cell? ⟨w.heap.size + 1, 0, none⟩ = some (.int .u64 (bh : Int)) := B2.out.cell 0
  have cB2_1 : w2.cell? ⟨w.heap.size + 1, 1, none⟩ = some (.int .u64 (bl : Int)) := B2.out.cell 1
  have cB2_2 : w2.cell? ⟨w.heap.size + 1, 2, none⟩ = some (.bool false) := B2.out.cell 2
  have lB2 : w.heap.size + 1 < w2.heap.size := B2.out.lt
  have cR2_0 : w2.cell? ⟨w.heap.size + 1 + 1, 0, none⟩ = some (.int .i64 0) := R2.out.cell 0
  have cR2_1 : w2.cell? ⟨w.heap.size + 1 + 1, 1, none⟩ = some (.int .i64 0) := R2.out.cell 1
  have lR2 : w.heap.size + 1 + 1 < w2.heap.size := R2.out.lt
  have cG2_0 : w2.cell? ⟨z1, 0, none⟩ = some (.int .u64 (gh : Int)) := G2.out.cell 0
  have cG2_1 : w2.cell? ⟨z1, 1, none⟩ = some (.int .u64 (gl : Int)) := G2.out.cell 1
  have lG2 : z1 < w2.heap.size := G2.out.lt
  have hp : two ph pl = m.natAbs / Nat.gcd m.natAbs n.natAbs := by rw [hp, HG.out, HA.out.2.2.1]
  have hP : IsW ph pl false (quo m (Nat.gcd m.natAbs n.natAbs)) := quo_isW GP.out.1 (Nat.gcd_dvd_left _ _) hph hpl hp HA.out.2.2.2
  have HP := Lib.hid hP
  clear hp hP hph hpl OV1
  go_wp2_with fail
  refine (OV2.out _).mono ?_
  rintro e w3 ⟨qh, ql, q2h, q2l, hqh, hql, _, _, hq, _, rfl, hn⟩
  have A3 := Lib.hid (hn.row (((A2.out.alloc (.cells #[.int .u64 (ph : Int), .int .u64 (pl : Int)] 159)).alloc (.cells #[.int .u64 (p2h : Int), .int .u64 (p2l : Int)] 159))))
  have B3 := Lib.hid (hn.row (((B2.out.alloc (.cells #[.int .u64 (ph : Int), .int .u64 (pl : Int)] 159)).alloc (.cells #[.int .u64 (p2h : Int), .int .u64 (p2l : Int)] 159))))
  have R3 := Lib.hid (hn.row (((R2.out.alloc (.cells #[.int .u64 (ph : Int), .int .u64 (pl : Int)] 159)).alloc (.cells #[.int .u64 (p2h : Int), .int .u64 (p2l : Int)] 159))))
  have G3 := Lib.hid (hn.row (((G2.out.alloc (.cells #[.int .u64 (ph : Int), .int .u64 (pl : Int)] 159)).alloc (.cells #[.int .u64 (p2h : Int), .int .u64 (p2l : Int)] 159))))
  have P3 := Lib.hid (hn.row (((Row.new_at w2 159 [.int .u64 (ph : Int), .int .u64 (pl : Int)] (g := w2.heap.size) (by simp)).alloc (.cells #[.int .u64 (p2h : Int), .int .u64 (p2l : Int)] 159))))
  have N3 := Lib.hid ((((N2.out.alloc (.cells #[.int .u64 (ph : Int), .int .u64 (pl : Int)] 159)).alloc (.cells #[.int .u64 (p2h : Int), .int .u64 (p2l : Int)] 159))).trans hn)
  clear hn cA2_0 cA2_1 cA2_2 lA2 cB2_0 cB2_1 cB2_2 lB2 cR2_0 cR2_1 lR2 cG2_0 cG2_1 lG2 A2 B2 R2 G2 N2
  generalize w2.heap.size = z2 at *
  have cA3_0 : w3.cell? ⟨w.heap.size, 0, none⟩ = some (.int .u64 (ah : Int)) := A3.out.cell 0
  have cA3_1 : w3.cell? ⟨w.heap.size, 1, none⟩ = some (.int .u64 (al : Int)) := A3.out.cell 1
  have cA3_2 : w3.cell? ⟨w.heap.size, 2, none⟩ = some (.bool false) := A3.out.cell 2
  have lA3 : w.heap.size < w3.heap.size := A3.out.lt
  have cB3_0 : w3.cell? ⟨w.heap.size + 1, 0, none⟩ = some (.int .u64 (bh : Int)) := B3.out.cell 0
  have cB3_1 : w3.cell? ⟨w.heap.size + 1, 1, none⟩ = some (.int .u64 (bl : Int)) := B3.out.cell 1
  have cB3_2 : w3.cell? ⟨w.heap.size + 1, 2, none⟩ = some (.bool false) := B3.out.cell 2
  have lB3 : w.heap.size + 1 < w3.heap.size := B3.out.lt
  have cR3_0 : w3.cell? ⟨w.heap.size + 1 + 1, 0, none⟩ = some (.int .i64 0) := R3.out.cell 0
  have cR3_1 : w3.cell? ⟨w.heap.size + 1 + 1, 1, none⟩ = some (.int .i64 0) := R3.out.cell 1
  have lR3 : w.heap.size + 1 + 1 < w3.heap.size := R3.out.lt
  have cG3_0 : w3.cell? ⟨z1, 0, none⟩ = some (.int .u64 (gh : Int)) := G3.out.cell 0
  have cG3_1 : w3.cell? ⟨z1, 1, none⟩ = some (.int .u64 (gl : Int)) := G3.out.cell 1
  have lG3 : z1 < w3.heap.size := G3.out.lt
  have cP3_0 : w3.cell? ⟨z2, 0, none⟩ = some (.int .u64 (ph : Int)) := P3.out.cell 0
  have cP3_1 : w3.cell? ⟨z2, 1, none⟩ = some (.int .u64 (pl : Int)) := P3.out.cell 1
  have lP3 : z2 < w3.heap.size := P3.out.lt
  have hq : two qh ql = n.natAbs / Nat.gcd m.natAbs n.natAbs := by rw [hq, HG.out, HB.out.2.2.1]
  have hQ : IsW qh ql false (quo n (Nat.gcd m.natAbs n.natAbs)) := quo_isW GP.out.1 (Nat.gcd_dvd_right _ _) hqh hql hq HB.out.2.2.2
  have NU1 := Lib.hid (fun W => number_no ph pl false _ HP.out Y1.out W)
  have NU2 := Lib.hid (fun W => number_no qh ql false _ hQ Y2.out W)
  clear hq hQ hqh hql OV2
  obtain ⟨p, hp⟩ : ∃ p, p = quo m (Nat.gcd m.natAbs n.natAbs) := ⟨_, rfl⟩
  obtain ⟨q, hq⟩ : ∃ q, q = quo n (Nat.gcd m.natAbs n.natAbs) := ⟨_, rfl⟩
  rw [← hp] at Y1
  rw [← hq] at Y2
  have HPQ := Lib.hid (And.intro hp hq)
  clear hp hq HP
  go_wp2_with fail
  refine (NU1.out _).mono ?_
  rintro e w4 ⟨rfl, hn⟩
  have A4 := Lib.hid (hn.row (((A3.out.alloc (.cells #[.int .u64 (qh : Int), .int .u64 (ql : Int)] 159)).alloc (.cells #[.int .u64 (q2h : Int), .int .u64 (q2l : Int)] 159))))
  have B4 := Lib.hid (hn.row (((B3.out.alloc (.cells #[.int .u64 (qh : Int), .int .u64 (ql : Int)] 159)).alloc (.cells #[.int .u64 (q2h : Int), .int .u64 (q2l : Int)] 159))))
  have R4 := Lib.hid (hn.row (((R3.out.alloc (.cells #[.int .u64 (qh : Int), .int .u64 (ql : Int)] 159)).alloc (.cells #[.int .u64 (q2h : Int), .int .u64 (q2l : Int)] 159))))
  have G4 := Lib.hid (hn.row (((G3.out.alloc (.cells #[.int .u64 (qh : Int), .int .u64 (ql : Int)] 159)).alloc (.cells #[.int .u64 (q2h : Int), .int .u64 (q2l : Int)] 159))))
  have P4 := Lib.hid (hn.row (((P3.out.alloc (.cells #[.int .u64 (qh : Int), .int .u64 (ql : Int)] 159)).alloc (.cells #[.int .u64 (q2h : Int), .int .u64 (q2l : Int)] 159))))
  have Q4 := Lib.hid (hn.row (((Row.new_at w3 159 [.int .u64 (qh : Int), .int .u64 (ql : Int)] (g := w3.heap.size) (by simp)).alloc (.cells #[.int .u64 (q2h : Int), .int .u64 (q2l : Int)] 159))))
  have N4 := Lib.hid ((((N3.out.alloc (.cells #[.int .u64 (qh : Int), .int .u64 (ql : Int)] 159)).alloc (.cells #[.int .u64 (q2h : Int), .int .u64 (q2l : Int)] 159))).trans hn)
  clear hn cA3_0 cA3_1 cA3_2 lA3 cB3_0 cB3_1 cB3_2 lB3 cR3_0 cR3_1 lR3 cG3_0 cG3_1 lG3 cP3_0 cP3_1 lP3 A3 B3 R3 G3 P3 N3
  generalize w3.heap.size = z3 at *
  have cA4_0 : w4.cell? ⟨w.heap.size, 0, none⟩ = some (.int .u64 (ah : Int)) := A4.out.cell 0
  have cA4_1 : w4.cell? ⟨w.heap.size, 1, none⟩ = some (.int .u64 (al : Int)) := A4.out.cell 1
  have cA4_2 : w4.cell? ⟨w.heap.size, 2, none⟩ = some (.bool false) := A4.out.cell 2
  have lA4 : w.heap.size < w4.heap.size := A4.out.lt
  have cB4_0 : w4.cell? ⟨w.heap.size + 1, 0, none⟩ = some (.int .u64 (bh : Int)) := B4.out.cell 0
  have cB4_1 : w4.cell? ⟨w.heap.size + 1, 1, none⟩ = some (.int .u64 (bl : Int)) := B4.out.cell 1
  have cB4_2 : w4.cell? ⟨w.heap.size + 1, 2, none⟩ = some (.bool false) := B4.out.cell 2
  have lB4 : w.heap.size + 1 < w4.heap.size := B4.out.lt
  have cR4_0 : w4.cell? ⟨w.heap.size + 1 + 1, 0, none⟩ = some (.int .i64 0) := R4.out.cell 0
  have cR4_1 : w4.cell? ⟨w.heap.size + 1 + 1, 1, none⟩ = some (.int .i64 0) := R4.out.cell 1
  have lR4 : w.heap.size + 1 + 1 < w4.heap.size := R4.out.lt
  have cG4_0 : w4.cell? ⟨z1, 0, none⟩ = some (.int .u64 (gh : Int)) := G4.out.cell 0
  have cG4_1 : w4.cell? ⟨z1, 1, none⟩ = some (.int .u64 (gl : Int)) := G4.out.cell 1
  have lG4 : z1 < w4.heap.size := G4.out.lt
  have cP4_0 : w4.cell? ⟨z2, 0, none⟩ = some (.int .u64 (ph : Int)) := P4.out.cell 0
  have cP4_1 : w4.cell? ⟨z2, 1, none⟩ = some (.int .u64 (pl : Int)) := P4.out.cell 1
  have lP4 : z2 < w4.heap.size := P4.out.lt
  have cQ4_0 : w4.cell? ⟨z3, 0, none⟩ = some (.int .u64 (qh : Int)) := Q4.out.cell 0
  have cQ4_1 : w4.cell? ⟨z3, 1, none⟩ = some (.int .u64 (ql : Int)) := Q4.out.cell 1
  have lQ4 : z3 < w4.heap.size := Q4.out.lt
  go_wp2_with fail
  refine (NU2.out _).mono ?_
  rintro e w5 ⟨rfl, hn⟩
  have A5 := Lib.hid (hn.row (A4.out))
  have B5 := Lib.hid (hn.row (B4.out))
  have R5 := Lib.hid (hn.row (R4.out))
  have G5 := Lib.hid (hn.row (G4.out))
  have P5 := Lib.hid (hn.row (P4.out))
  have Q5 := Lib.hid (hn.row (Q4.out))
  have N5 := Lib.hid ((N4.out).trans hn)
  clear hn cA4_0 cA4_1 cA4_2 lA4 cB4_0 cB4_1 cB4_2 lB4 cR4_0 cR4_1 lR4 cG4_0 cG4_1 lG4 cP4_0 cP4_1 lP4 cQ4_0 cQ4_1 lQ4 A4 B4 R4 G4 P4 Q4 N4
  have cA5_0 : w5.cell? ⟨w.heap.size, 0, none⟩ = some (.int .u64 (ah : Int)) := A5.out.cell 0
  have cA5_1 : w5.cell? ⟨w.heap.size, 1, none⟩ = some (.int .u64 (al : Int)) := A5.out.cell 1
  have cA5_2 : w5.cell? ⟨w.heap.size, 2, none⟩ = some (.bool false) := A5.out.cell 2
  have lA5 : w.heap.size < w5.heap.size := A5.out.lt
  have cB5_0 : w5.cell? ⟨w.heap.size + 1, 0, none⟩ = some (.int .u64 (bh : Int)) := B5.out.cell 0
  have cB5_1 : w5.cell? ⟨w.heap.size + 1, 1, none⟩ = some (.int .u64 (bl : Int)) := B5.out.cell 1
  have cB5_2 : w5.cell? ⟨w.heap.size + 1, 2, none⟩ = some (.bool false) := B5.out.cell 2
  have lB5 : w.heap.size + 1 < w5.heap.size := B5.out.lt
  have cR5_0 : w5.cell? ⟨w.heap.size + 1 + 1, 0, none⟩ = some (.int .i64 0) := R5.out.cell 0
  have cR5_1 : w5.cell? ⟨w.heap.size + 1 + 1, 1, none⟩ = some (.int .i64 0) := R5.out.cell 1
  have lR5 : w.heap.size + 1 + 1 < w5.heap.size := R5.out.lt
  have cG5_0 : w5.cell? ⟨z1, 0, none⟩ = some (.int .u64 (gh : Int)) := G5.out.cell 0
  have cG5_1 : w5.cell? ⟨z1, 1, none⟩ = some (.int .u64 (gl : Int)) := G5.out.cell 1
  have lG5 : z1 < w5.heap.size := G5.out.lt
  have cP5_0 : w5.cell? ⟨z2, 0, none⟩ = some (.int .u64 (ph : Int)) := P5.out.cell 0
  have cP5_1 : w5.cell? ⟨z2, 1, none⟩ = some (.int .u64 (pl : Int)) := P5.out.cell 1
  have lP5 : z2 < w5.heap.size := P5.out.lt
  have cQ5_0 : w5.cell? ⟨z3, 0, none⟩ = some (.int .u64 (qh : Int)) := Q5.out.cell 0
  have cQ5_1 : w5.cell? ⟨z3, 1, none⟩ = some (.int .u64 (ql : Int)) := Q5.out.cell 1
  have lQ5 : z3 < w5.heap.size := Q5.out.lt
  have fR5_0 : w5.frozen? ⟨w.heap.size + 1 + 1, 0, none⟩ = false := R5.out.free 0
  have fR5_1 : w5.frozen? ⟨w.heap.size + 1 + 1, 1, none⟩ = false := R5.out.free 1
  have R9 := Lib.hid ((R5.out.set 0 (.int .i64 0)).set 1 (.int .i64 0))
  have N9 := Lib.hid (new_set (new_set N5.out (w.heap.size + 1 + 1) (by omega) 0 (.int .i64 0)) (w.heap.size + 1 + 1) (by omega) 1 (.int .i64 0))
  clear NU1 NU2 A5 B5 G5 P5 Q5
  go_wp2_with fail
  generalize (w5.setCell ⟨w.heap.size + 1 + 1, 0, none⟩ (.int .i64 0)).setCell ⟨w.heap.size + 1 + 1, 1, none⟩ (.int .i64 0) = w9 at *
  have r0 : w9.cell? ⟨w.heap.size + 1 + 1, 0, none⟩ = some (.int .i64 0) := R9.out.cell 0
  have r1 : w9.cell? ⟨w.heap.size + 1 + 1, 1, none⟩ = some (.int .i64 0) := R9.out.cell 1
  exact bodyPost_ret (v := .tuple #[.agg #[.int .i64 0, .int .i64 0], .int .i64 20]) (by simp [results, Try.results115, go_sem, r0, r1]) rfl
    ⟨N9.out, by rw [← HPQ.out.1, ← HPQ.out.2]; exact .inr ⟨fun h => Y1.out h.1, rfl⟩⟩
theorem rmade_any (ah al bh bl : Nat) (s t : Bool) (m n : Int) (ha : IsW ah al s m) (hb : IsW bh bl t n) (hn0 : 0 < n) (hs : two bh bl ≤ 170141183460469231731687303715884105728) (w : World) :
    Calls Try.prog 115 #[.agg #[.int .u64 ah, .int .u64 al, .bool s], .agg #[.int .u64 bh, .int .u64 bl, .bool t]] w (MadeRes m n w) := by
  obtain rfl : t = false := by rw [hb.2.2.2]; exact decide_eq_false (by omega)
  by_cases y1 : In64 (quo m (Nat.gcd m.natAbs n.natAbs)) <;> by_cases y2 : In64 (quo n (Nat.gcd m.natAbs n.natAbs)) <;> cases s
  · exact made_fyy ah al bh bl m n ha hb hn0 hs y1 y2 w
  · exact made_tyy ah al bh bl m n ha hb hn0 hs y1 y2 w
  · exact made_fyn ah al bh bl m n ha hb hn0 hs y1 y2 w
  · exact made_tyn ah al bh bl m n ha hb hn0 hs y1 y2 w
  · exact made_fny ah al bh bl m n ha hb hn0 hs y1 y2 w
  · exact made_tny ah al bh bl m n ha hb hn0 hs y1 y2 w
  · exact made_fnn ah al bh bl m n ha hb hn0 hs y1 y2 w
  · exact made_tnn ah al bh bl m n ha hb hn0 hs y1 y2 w
end Go.Proofs.Ytapfihlgemejiaa
