/- Bits of whole numbers of 32 bits: the top bit turned, four bytes put together. -/
import Derived.Test.YtapfihlgemejiaaB0
namespace Go.Proofs.Ytapfihlgemejiaa
open Go.RowKit
theorem nat_xor_top {m : Nat} (h : m < 2147483648) : m ^^^ 2147483648 = m + 2147483648 := by
  rw [show (2147483648 : Nat) = 2 ^ 31 by rfl] at *
  apply Nat.eq_of_testBit_eq
  intro i
  rw [Nat.testBit_xor, Nat.testBit_two_pow, Nat.add_comm]
  rcases Nat.lt_trichotomy i 31 with e | e | e
  · rw [Nat.testBit_two_pow_add_gt e]
    have : ¬ 31 = i := by omega
    simp [this]
  · subst e
    rw [Nat.testBit_two_pow_add_eq, Nat.testBit_lt_two_pow h]
    simp
  · have h1 : 2 ^ 31 + m < 2 ^ i := Nat.lt_of_lt_of_le (show 2 ^ 31 + m < 2 ^ 32 by omega) (Nat.pow_le_pow_right (by omega) (by omega))
    rw [Nat.testBit_lt_two_pow h1, Nat.testBit_lt_two_pow (by omega)]
    have : ¬ 31 = i := by omega
    simp [this]
theorem nat_xor_top' {m : Nat} (h : m < 4294967296) : m ^^^ 2147483648 = if m < 2147483648 then m + 2147483648 else m - 2147483648 := by
  split
  · rename_i h1; exact nat_xor_top h1
  · rename_i h1
    obtain ⟨k, rfl⟩ : ∃ k, m = k + 2147483648 := ⟨m - 2147483648, by omega⟩
    rw [← nat_xor_top (show k < 2147483648 by omega), Nat.xor_assoc, Nat.xor_self, Nat.xor_zero, nat_xor_top (by omega)]
    omega
theorem ofInt32_toNat (a : Int) : ((BitVec.ofInt 32 a).toNat : Int) = a % 4294967296 := by
  rw [BitVec.toNat_ofInt]; omega
/-- The top bit turned. -/
theorem xor_top (a : Int) : bits .xor .u32 a 2147483648 = (a + 2147483648) % 4294967296 := by
  show IntKind.u32.wrap ((BitVec.ofInt 32 a ^^^ BitVec.ofInt 32 2147483648).toNat : Int) = _
  have hb : (BitVec.ofInt 32 2147483648).toNat = 2147483648 := by rfl
  have ha := ofInt32_toNat a
  rw [BitVec.toNat_xor, hb, nat_xor_top' (BitVec.isLt _), IntKind.wrap_u32]
  split <;> omega
theorem nat_or_low {a b k : Nat} (h : b < 2 ^ k) : (a * 2 ^ k) ||| b = a * 2 ^ k + b := by
  rw [Nat.mul_comm, Nat.two_pow_add_eq_or_of_lt h]
theorem or_u32 (a b : Int) (k : Nat) (c : Nat) (ha : a = ((c * 2 ^ k : Nat) : Int)) (ha2 : a ≤ 4294967295) (hb0 : 0 ≤ b) (hb : b < 2 ^ k) (hs : a + b ≤ 4294967295) : bits .or .u32 a b = a + b := by
  show IntKind.u32.wrap ((BitVec.ofInt 32 a ||| BitVec.ofInt 32 b).toNat : Int) = _
  have h1 := ofInt32_toNat a
  have h2 := ofInt32_toNat b
  obtain ⟨b', rfl⟩ := Int.eq_ofNat_of_zero_le hb0
  have hb' : b' < 2 ^ k := by exact_mod_cast hb
  have e1 : (BitVec.ofInt 32 a).toNat = c * 2 ^ k := by omega
  have e2 : (BitVec.ofInt 32 (b' : Int)).toNat = b' := by omega
  rw [BitVec.toNat_or, e1, e2, nat_or_low hb', IntKind.wrap_u32]
  omega
/-- Four bytes as one number. -/
theorem or_bytes (a b c d : Int) (ha : 0 ≤ a ∧ a ≤ 255) (hb : 0 ≤ b ∧ b ≤ 255) (hc : 0 ≤ c ∧ c ≤ 255) (hd : 0 ≤ d ∧ d ≤ 255) :
    bits .or .u32 (bits .or .u32 (bits .or .u32 (a * 16777216) (b * 65536)) (c * 256)) d = a * 16777216 + b * 65536 + c * 256 + d := by
  obtain ⟨a', rfl⟩ := Int.eq_ofNat_of_zero_le ha.1
  obtain ⟨b', rfl⟩ := Int.eq_ofNat_of_zero_le hb.1
  obtain ⟨c', rfl⟩ := Int.eq_ofNat_of_zero_le hc.1
  rw [or_u32 (a' * 16777216) (b' * 65536) 24 a' (by rw [show (2 : Nat) ^ 24 = 16777216 by decide]; omega) (by omega) (by omega) (by omega) (by omega)]
  rw [or_u32 _ (c' * 256) 16 (a' * 256 + b') (by rw [show (2 : Nat) ^ 16 = 65536 by decide]; omega) (by omega) (by omega) (by omega) (by omega)]
  rw [or_u32 _ d 8 (a' * 65536 + b' * 256 + c') (by rw [show (2 : Nat) ^ 8 = 256 by decide]; omega) (by omega) (by omega) (by omega) (by omega)]
theorem and15 (a : Int) : bits .and .u8 a 15 = a % 16 := by
  show IntKind.u8.wrap ((BitVec.ofInt 8 a &&& BitVec.ofInt 8 15).toNat : Int) = _
  rw [BitVec.toNat_and, show (BitVec.ofInt 8 15).toNat = 2 ^ 4 - 1 from rfl, Nat.and_two_pow_sub_one_eq_mod, BitVec.toNat_ofInt, IntKind.wrap_u8]
  omega
end Go.Proofs.Ytapfihlgemejiaa
