/- Plain numbers: long division by bits, greatest divisors. -/
import Derived.Test.YtapfihlgemejiaaA0
namespace Go.Proofs.Ytapfihlgemejiaa

theorem div_round_of (X T : Nat) (hT : 0 < T) :
    X / T = 2 * (X / 2 / T) + (if T ≤ 2 * (X / 2 % T) + X % 2 then 1 else 0) ∧
    X % T = if T ≤ 2 * (X / 2 % T) + X % 2 then 2 * (X / 2 % T) + X % 2 - T else 2 * (X / 2 % T) + X % 2 := by
  have hq := Nat.div_add_mod (X / 2) T
  have hr := Nat.mod_lt (X / 2) hT
  have hb := Nat.mod_lt X (show 0 < 2 by omega)
  have hx : X = 2 * (X / 2) + X % 2 := by omega
  generalize X / 2 / T = q at *
  generalize X / 2 % T = r at *
  generalize X % 2 = b at *
  have hX : X = T * (2 * q) + (2 * r + b) := by
    rw [hx, ← hq, Nat.mul_add, ← Nat.mul_assoc, Nat.mul_comm 2 T, Nat.mul_assoc]
    omega
  by_cases h : T ≤ 2 * r + b
  · rw [if_pos h, if_pos h]
    have e : X = T * (2 * q + 1) + (2 * r + b - T) := by
      rw [hX, Nat.mul_add, Nat.mul_one]; omega
    rw [e]
    constructor
    · rw [Nat.mul_add_div hT, Nat.div_eq_of_lt (by omega)]
    · rw [Nat.mul_add_mod, Nat.mod_eq_of_lt (by omega)]
  · rw [if_neg h, if_neg h]
    rw [hX]
    constructor
    · rw [Nat.mul_add_div hT, Nat.div_eq_of_lt (by omega)]
    · rw [Nat.mul_add_mod, Nat.mod_eq_of_lt (by omega)]
theorem div_two_pow_succ (S m : Nat) : S / 2 ^ m / 2 = S / 2 ^ (m + 1) := by rw [Nat.pow_succ, Nat.div_div_eq_div_mul]
/-- What long division has, m bits ahead of the end. -/
def quoAt (S T m : Nat) : Nat := S / 2 ^ m / T * 2 ^ m
def remAt (S T m : Nat) : Nat := S / 2 ^ m % T
def bitAt (S m : Nat) : Nat := S / 2 ^ m % 2
theorem rem_step (S T m : Nat) (hT : 0 < T) : remAt S T m = if T ≤ 2 * remAt S T (m + 1) + bitAt S m then 2 * remAt S T (m + 1) + bitAt S m - T else 2 * remAt S T (m + 1) + bitAt S m := by
  unfold remAt bitAt; rw [← div_two_pow_succ]; exact (div_round_of _ T hT).2
theorem quo_step (S T m : Nat) (hT : 0 < T) : quoAt S T m = quoAt S T (m + 1) + if T ≤ 2 * remAt S T (m + 1) + bitAt S m then 2 ^ m else 0 := by
  unfold quoAt remAt bitAt; rw [← div_two_pow_succ, (div_round_of (S / 2 ^ m) T hT).1, Nat.add_mul, Nat.pow_succ]
  have : 2 * (S / 2 ^ m / 2 / T) * 2 ^ m = S / 2 ^ m / 2 / T * (2 ^ m * 2) := by rw [Nat.mul_comm (2 ^ m) 2, ← Nat.mul_assoc, Nat.mul_comm _ 2]
  rw [this]
  split <;> simp
theorem rem_lt (S T m : Nat) (hT : 0 < T) : remAt S T m < T := Nat.mod_lt _ hT
theorem bit_le (S m : Nat) : bitAt S m ≤ 1 := by unfold bitAt; omega
theorem quo_start (S T m : Nat) (h : S < 2 ^ m) : quoAt S T m = 0 ∧ remAt S T m = 0 := by
  unfold quoAt remAt; rw [Nat.div_eq_of_lt h]; simp
theorem quo_end (S T : Nat) : quoAt S T 0 = S / T ∧ remAt S T 0 = S % T := by unfold quoAt remAt; simp
theorem quo_le (S T m : Nat) : quoAt S T m ≤ S := by
  unfold quoAt
  exact Nat.le_trans (Nat.mul_le_mul_right _ (Nat.div_le_self _ _)) (Nat.div_mul_le_self _ _)
theorem gcd_step (a b : Nat) : Nat.gcd b (a % b) = Nat.gcd a b := by
  rw [Nat.gcd_comm a b, Nat.gcd_rec b a, Nat.gcd_comm]
/-- Bits of a number in two words. -/
theorem bit_low (h l m : Nat) (hm : m < 64) : bitAt (h * 18446744073709551616 + l) m = l / 2 ^ m % 2 := by
  unfold bitAt
  have e : (18446744073709551616 : Nat) = 2 ^ m * (2 * 2 ^ (63 - m)) := by
    rw [← Nat.mul_assoc, Nat.mul_comm (2 ^ m) 2, Nat.mul_assoc, ← Nat.pow_add, show m + (63 - m) = 63 by omega]
  rw [show h * 18446744073709551616 + l = 2 ^ m * (2 * (2 ^ (63 - m) * h)) + l by rw [e, Nat.mul_comm h, Nat.mul_assoc, Nat.mul_assoc],
    Nat.mul_add_div (Nat.two_pow_pos m), Nat.mul_add_mod]
theorem bit_high (h l m : Nat) (hl : l < 18446744073709551616) : bitAt (h * 18446744073709551616 + l) (m + 64) = h / 2 ^ m % 2 := by
  unfold bitAt
  rw [Nat.add_comm m 64, Nat.pow_add, ← Nat.div_div_eq_div_mul, show (2 ^ 64 : Nat) = 18446744073709551616 from rfl, Nat.mul_comm h, Nat.mul_add_div (by omega), Nat.div_eq_of_lt hl]; rfl
theorem or_pow (a k : Nat) (h : 2 ^ (k + 1) ∣ a) : a ||| 2 ^ k = a + 2 ^ k := by
  obtain ⟨c, rfl⟩ := h
  exact (Nat.two_pow_add_eq_or_of_lt (Nat.pow_lt_pow_right (by omega) (by omega)) c).symm
theorem quo_dvd (S T m : Nat) : 2 ^ m ∣ quoAt S T m := ⟨_, Nat.mul_comm _ _⟩
/-- A bit into the low word. -/
theorem put_low (Q m : Nat) (hm : m < 64) (hd : 2 ^ (m + 1) ∣ Q) :
    (Q + 2 ^ m) / 18446744073709551616 = Q / 18446744073709551616 ∧ (Q + 2 ^ m) % 18446744073709551616 = Q % 18446744073709551616 ||| 2 ^ m := by
  have e : (18446744073709551616 : Nat) = 2 ^ (m + 1) * 2 ^ (63 - m) := by rw [← Nat.pow_add, show m + 1 + (63 - m) = 64 by omega]
  have hk : 2 ^ (m + 1) ∣ (18446744073709551616 : Nat) := ⟨_, e⟩
  have hd2 : 2 ^ (m + 1) ∣ Q % 18446744073709551616 := (Nat.dvd_mod_iff hk).2 hd
  rw [or_pow _ _ hd2]
  have hlt : Q % 18446744073709551616 + 2 ^ m < 18446744073709551616 := by
    obtain ⟨c, hc⟩ := hd2
    have h1 : Q % 18446744073709551616 < 18446744073709551616 := Nat.mod_lt _ (by omega)
    rw [hc] at h1 ⊢
    rw [e] at h1 ⊢
    have h2 : c < 2 ^ (63 - m) := Nat.lt_of_mul_lt_mul_left h1
    have h3 : 2 ^ (m + 1) * (c + 1) ≤ 2 ^ (m + 1) * 2 ^ (63 - m) := Nat.mul_le_mul_left _ h2
    have h4 : 2 ^ m < 2 ^ (m + 1) := Nat.pow_lt_pow_right (by omega) (by omega)
    rw [Nat.mul_add, Nat.mul_one] at h3
    omega
  omega
theorem put_high (Q m : Nat) (hd : 2 ^ (m + 64 + 1) ∣ Q) :
    (Q + 2 ^ (m + 64)) / 18446744073709551616 = Q / 18446744073709551616 ||| 2 ^ m ∧ (Q + 2 ^ (m + 64)) % 18446744073709551616 = Q % 18446744073709551616 := by
  have e : 2 ^ (m + 64) = 2 ^ m * 18446744073709551616 := by rw [Nat.pow_add]
  have hd2 : 2 ^ (m + 1) ∣ Q / 18446744073709551616 := by
    obtain ⟨c, rfl⟩ := hd
    refine ⟨c, ?_⟩
    rw [show m + 64 + 1 = (m + 1) + 64 by omega, Nat.pow_add, Nat.mul_right_comm]
    exact Nat.mul_div_cancel _ (by decide)
  rw [or_pow _ _ hd2, e, Nat.add_mul_div_right _ _ (by omega), Nat.add_mul_mod_self_right]
  exact ⟨rfl, rfl⟩
end Go.Proofs.Ytapfihlgemejiaa
