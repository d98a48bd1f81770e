/- TopFollows, plain: fractions whose twelvefold is whole. -/
import Derived.Test.YtapfihlgemejiaaY0
import Derived.Test.YtapfihlgemejiaaY2
import Derived.Test.YtapfihlgemejiaaY3
namespace Go.Proofs.Ytapfihlgemejiaa

/-- The fraction a by b, in lowest terms, is V twelfths. -/
def RatIs (a b V : Int) : Prop := rightR a b = true ∧ 12 * a = V * b
theorem RatIs.den {a b V : Int} (h : RatIs a b V) : 1 ≤ b ∧ b ≤ 12 := by
  obtain ⟨h1, h2⟩ := h
  obtain ⟨h1, h3⟩ := rightR_pos h1
  refine ⟨h1, ?_⟩
  have hd : b ∣ 12 * a := ⟨V, by rw [h2, Int.mul_comm]⟩
  have hd2 : b.natAbs ∣ 12 * a.natAbs := by
    have := Int.natAbs_dvd_natAbs.2 hd
    rwa [Int.natAbs_mul] at this
  have hco : Nat.Coprime b.natAbs a.natAbs := by rw [Nat.Coprime, Nat.gcd_comm]; exact h3
  have := Nat.le_of_dvd (by omega) (hco.dvd_of_dvd_mul_right hd2)
  omega
theorem RatIs.num {a b V : Int} (h : RatIs a b V) (h0 : 0 ≤ V) : 0 ≤ a ∧ a ≤ V := by
  obtain ⟨h1, h2⟩ := h.den
  have h3 := h.2
  have h4 : 0 ≤ V * b := Int.mul_nonneg h0 (by omega)
  have h5 : V * b ≤ V * 12 := Int.mul_le_mul_of_nonneg_left h2 h0
  omega
theorem RatIs.whole (n : Int) : RatIs n 1 (12 * n) := ⟨decide_eq_true ⟨by omega, Nat.gcd_one_right _⟩, by omega⟩
theorem quo_natAbs (m : Int) (g : Nat) : (quo m g).natAbs = m.natAbs / g := by unfold quo; split <;> simp only [Int.natAbs_neg, Int.natAbs_natCast]
theorem quo_in {m : Int} {g : Nat} (h : m.natAbs ≤ 1000000000) : In64 (quo m g) := by
  have h1 := quo_natAbs m g
  have h2 : m.natAbs / g ≤ m.natAbs := Nat.div_le_self _ _
  unfold In64; omega
theorem quo_times {m : Int} {g : Nat} (hd : g ∣ m.natAbs) : (g : Int) * quo m g = m := by
  have h := Nat.mul_div_cancel' hd
  have h' : (g : Int) * ((m.natAbs / g : Nat) : Int) = (m.natAbs : Int) := by rw [← Int.natCast_mul, h]
  unfold quo
  split
  · rw [Int.mul_neg, h']; omega
  · rw [h']; omega
theorem made_ratIs {m n D : Int} (hn : 0 < n) (h : 12 * m = D * n) : RatIs (quo m (Nat.gcd m.natAbs n.natAbs)) (quo n (Nat.gcd m.natAbs n.natAbs)) D := by
  have hg : 0 < Nat.gcd m.natAbs n.natAbs := Nat.gcd_pos_of_pos_right _ (by omega)
  have e1 := quo_times (m := m) (Nat.gcd_dvd_left m.natAbs n.natAbs)
  have e2 := quo_times (m := n) (Nat.gcd_dvd_right m.natAbs n.natAbs)
  have hco := Nat.coprime_div_gcd_div_gcd hg
  have a1 := quo_natAbs m (Nat.gcd m.natAbs n.natAbs)
  have a2 := quo_natAbs n (Nat.gcd m.natAbs n.natAbs)
  rw [← a1, ← a2] at hco
  generalize quo m (Nat.gcd m.natAbs n.natAbs) = x at *
  generalize quo n (Nat.gcd m.natAbs n.natAbs) = y at *
  generalize Nat.gcd m.natAbs n.natAbs = g at *
  have hg' : (0 : Int) < g := by omega
  have hy : 1 ≤ y := by
    rcases Int.lt_or_le 0 y with h1 | h1
    · exact h1
    · have := Int.mul_le_mul_of_nonneg_left h1 (Int.le_of_lt hg')
      rw [Int.mul_zero] at this
      omega
  refine ⟨decide_eq_true ⟨hy, hco⟩, ?_⟩
  rw [← e1, ← e2] at h
  have h2 : (g : Int) * (12 * x) = (g : Int) * (D * y) := by
    rw [Int.mul_left_comm, h, Int.mul_left_comm]
  exact Int.eq_of_mul_eq_mul_left (by omega) h2
theorem rat_in {a b V : Int} (h : RatIs a b V) (h0 : 0 ≤ V) (h1 : V ≤ 1000000) : In64 a ∧ In64 b := by
  have h2 := h.den; have h3 := h.num h0
  unfold In64; omega
theorem prod_bound {a d V : Int} (h0 : 0 ≤ a) (h1 : a ≤ V) (hV : V ≤ 1000000) (hd : 1 ≤ d) (hd2 : d ≤ 12) : 0 ≤ a * d ∧ a * d ≤ 12000000 := by
  have h2 : 0 ≤ a * d := Int.mul_nonneg h0 (by omega)
  have h3 : a * d ≤ a * 12 := Int.mul_le_mul_of_nonneg_left hd2 h0
  omega
theorem sub_ratIs {a b c d V W x y er : Int} (h : RatIs a b V) (k : RatIs c d W) (hV0 : 0 ≤ V) (hV : V ≤ 1000000) (hW0 : 0 ≤ W) (hW : W ≤ 1000000) (hm : MadeIx (a * d + -(c * b)) (b * d) x y er) :
    er = 0 ∧ RatIs x y (V - W) ∧ In64 x ∧ In64 y := by
  obtain ⟨b1, b2⟩ := h.den
  obtain ⟨d1, d2⟩ := k.den
  obtain ⟨a0, a1⟩ := h.num hV0
  obtain ⟨c0, c1⟩ := k.num hW0
  have p1 := prod_bound a0 a1 hV d1 d2
  have p2 := prod_bound c0 c1 hW b1 b2
  have p3 := prod_bound (a := b) (d := d) (V := 12) (by omega) b2 (by omega) d1 d2
  have hn : 0 < b * d := Int.mul_pos (by omega) (by omega)
  have e : 12 * (a * d + -(c * b)) = (V - W) * (b * d) := by
    have e1 : 12 * (a * d) = V * (b * d) := by rw [← Int.mul_assoc, h.2, Int.mul_assoc]
    have e2 : 12 * (c * b) = W * (b * d) := by rw [← Int.mul_assoc, k.2, Int.mul_assoc, Int.mul_comm d b]
    rw [Int.mul_add, Int.mul_neg, e1, e2, Int.sub_mul]; omega
  have hr := made_ratIs hn e
  have i1 : In64 (quo (a * d + -(c * b)) (Nat.gcd (a * d + -(c * b)).natAbs (b * d).natAbs)) := quo_in (by omega)
  have i2 : In64 (quo (b * d) (Nat.gcd (a * d + -(c * b)).natAbs (b * d).natAbs)) := quo_in (by omega)
  have he := hm.2 i1 i2
  rcases hm.1 with ⟨_, _, rfl, rfl, _⟩ | ⟨_, _, h20⟩
  · exact ⟨he, hr, i1, i2⟩
  · omega
theorem add_ratIs {a b c d V W x y er : Int} (h : RatIs a b V) (k : RatIs c d W) (hm : MadeIs (a * d + c * b) (b * d) x y er) (he : er = 0) : RatIs x y (V + W) := by
  obtain ⟨b1, b2⟩ := h.den
  obtain ⟨d1, d2⟩ := k.den
  have hn : 0 < b * d := Int.mul_pos (by omega) (by omega)
  have e : 12 * (a * d + c * b) = (V + W) * (b * d) := by
    have e1 : 12 * (a * d) = V * (b * d) := by rw [← Int.mul_assoc, h.2, Int.mul_assoc]
    have e2 : 12 * (c * b) = W * (b * d) := by rw [← Int.mul_assoc, k.2, Int.mul_assoc, Int.mul_comm d b]
    rw [Int.mul_add, e1, e2, Int.add_mul]
  have hr := made_ratIs hn e
  rcases hm with ⟨_, _, rfl, rfl, _⟩ | ⟨_, _, h20⟩
  · exact hr
  · omega
theorem keepsB_iff {b x y D : Int} (h : RatIs x y D) : keepsB b x y = true ↔ b = 2147483647 ∨ Kf b D := by
  obtain ⟨y1, _⟩ := h.den
  have hc : cmpR x y (b / 2) 1 = sgn (x - b / 2 * y) := by
    have h1 := (RatIs.whole (b / 2)).1
    unfold cmpR
    rw [h.1, h1]
    simp
  have e := h.2
  have k1 : x < b / 2 * y ↔ D < 12 * (b / 2) := by
    constructor
    · intro h1
      rcases Int.lt_or_le D (12 * (b / 2)) with h2 | h2
      · exact h2
      · have h3 := Int.mul_le_mul_of_nonneg_right h2 (show 0 ≤ y by omega)
        rw [Int.mul_assoc] at h3
        omega
    · intro h1
      have h3 := Int.mul_lt_mul_of_pos_right h1 (show 0 < y by omega)
      rw [Int.mul_assoc] at h3
      omega
  have k2 : x = b / 2 * y ↔ D = 12 * (b / 2) := by
    constructor
    · intro h1
      have h3 : D * y = 12 * (b / 2) * y := by rw [Int.mul_assoc]; omega
      exact Int.eq_of_mul_eq_mul_right (by omega) h3
    · intro h1
      rw [h1, Int.mul_assoc] at e
      omega
  have s1 : sgn (x - b / 2 * y) < 0 ↔ x < b / 2 * y := by unfold sgn; split <;> (try split) <;> omega
  have s2 : sgn (x - b / 2 * y) = 0 ↔ x = b / 2 * y := by unfold sgn; split <;> (try split) <;> omega
  unfold keepsB Kf
  rw [hc]
  simp only [Bool.or_eq_true, Bool.and_eq_true, decide_eq_true_eq]
  rw [s1, s2, k1, k2]
/-- A delay. -/
theorem delay_ratIs {a b : Int} (h : rightR a b = true) (h0 : 0 ≤ a) (h1 : a ≤ 100) (h2 : b ≤ 4) : ∃ d, RatIs a b d ∧ 0 ≤ d ∧ d ≤ 1200 := by
  obtain ⟨h3, _⟩ := rightR_pos h
  rcases (by omega : b = 1 ∨ b = 2 ∨ b = 3 ∨ b = 4) with rfl | rfl | rfl | rfl
  · exact ⟨12 * a, ⟨h, by omega⟩, by omega, by omega⟩
  · exact ⟨6 * a, ⟨h, by omega⟩, by omega, by omega⟩
  · exact ⟨4 * a, ⟨h, by omega⟩, by omega, by omega⟩
  · exact ⟨3 * a, ⟨h, by omega⟩, by omega, by omega⟩
end Go.Proofs.Ytapfihlgemejiaa
