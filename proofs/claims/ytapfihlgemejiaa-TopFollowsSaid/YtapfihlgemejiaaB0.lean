/- Facts on bits of whole numbers of 64 bits. | Bits of whole numbers of 32 bits: the top bit turned, four bytes put together. -/
import Derived.Test.YtapfihlgemejiaaM0
import Derived.Laws.BitsAllLaws
import Derived.Laws.BitsLemmas
-- Facts on bits of whole numbers of 64 bits.
namespace Go.Proofs.Ytapfihlgemejiaa
open Go.RowKit
theorem bv_even (x : BitVec 64) : x &&& ~~~ (1#64) = (x >>> 1) <<< 1 := by
  apply BitVec.eq_of_getLsbD_eq
  intro i hi
  simp only [BitVec.getLsbD_and, BitVec.getLsbD_not, BitVec.getLsbD_shiftLeft, BitVec.getLsbD_ushiftRight, BitVec.getLsbD_one]
  by_cases h0 : i = 0
  · subst h0; simp
  · simp only [h0, hi, decide_true, decide_false, Bool.true_and]
    have : ¬ i < 1 := by omega
    simp only [this, decide_false, Bool.not_false, Bool.true_and]
    rw [show 1 + (i - 1) = i by omega]
    simp
theorem bv_even_nat (x : BitVec 64) : (x &&& ~~~ (1#64)).toNat = x.toNat - x.toNat % 2 := by
  rw [bv_even, BitVec.toNat_shiftLeft, BitVec.toNat_ushiftRight, Nat.shiftLeft_eq, Nat.shiftRight_eq_div_pow]
  have := x.isLt
  omega
theorem wrap_i64_of (a : Int) (n : Nat) (h1 : -9223372036854775808 ≤ a) (h2 : a ≤ 9223372036854775807) (h : (n : Int) % 18446744073709551616 = a % 18446744073709551616) : IntKind.i64.wrap (n : Int) = a := by
  rw [IntKind.wrap_i64]
  omega
theorem ofInt_toNat (a : Int) : ((BitVec.ofInt 64 a).toNat : Int) = a % 18446744073709551616 := by
  rw [BitVec.toNat_ofInt]
  omega
theorem bits_even (a : Int) (h1 : -9223372036854775808 ≤ a) (h2 : a ≤ 9223372036854775807) : bits .andNot .i64 a 1 = a - a % 2 := by
  show IntKind.i64.wrap ((BitVec.ofInt 64 a &&& ~~~ (BitVec.ofInt 64 1)).toNat : Int) = _
  apply wrap_i64_of _ _ (by omega) (by omega)
  rw [show BitVec.ofInt 64 1 = 1#64 from rfl, bv_even_nat]
  have := ofInt_toNat a
  omega
theorem bv_odd_nat (x : BitVec 64) : (x &&& 1#64).toNat = x.toNat % 2 := by
  rw [BitVec.toNat_and]; exact nat_mask1 _
theorem bits_odd (a : Int) (_h1 : -9223372036854775808 ≤ a) (_h2 : a ≤ 9223372036854775807) : bits .and .i64 a 1 = a % 2 := by
  show IntKind.i64.wrap ((BitVec.ofInt 64 a &&& (BitVec.ofInt 64 1)).toNat : Int) = _
  apply wrap_i64_of _ _ (by omega) (by omega)
  rw [show BitVec.ofInt 64 1 = 1#64 from rfl, bv_odd_nat]
  have := ofInt_toNat a
  omega
theorem nat_odd_and (m n : Nat) : (m &&& n) % 2 = if m % 2 = 1 ∧ n % 2 = 1 then 1 else 0 := by
  rw [← nat_mask1, Nat.and_assoc, nat_mask1]
  rcases Nat.mod_two_eq_zero_or_one n with h | h
  · rw [h]; simp
  · rw [h, nat_mask1]
    rcases Nat.mod_two_eq_zero_or_one m with h' | h' <;> simp [h']
theorem odd_of_rem (m : Nat) (a : Int) (h : (m : Int) = a % 18446744073709551616) : (m % 2 = 1) = (a % 2 = 1) := by
  apply propext; constructor <;> intro h1 <;> omega
theorem wrap_odd (n : Nat) : IntKind.i64.wrap (n : Int) % 2 = ((n % 2 : Nat) : Int) := by
  rw [IntKind.wrap_i64]; omega
theorem wrap_range (n : Int) : -9223372036854775808 ≤ IntKind.i64.wrap n ∧ IntKind.i64.wrap n ≤ 9223372036854775807 := by
  rw [IntKind.wrap_i64]; omega
theorem bits_odd2 (a b : Int) : bits .and .i64 (bits .and .i64 a b) 1 = if a % 2 = 1 ∧ b % 2 = 1 then 1 else 0 := by
  have hr := wrap_range ((BitVec.ofInt 64 a &&& BitVec.ofInt 64 b).toNat : Int)
  have e : bits .and .i64 a b = IntKind.i64.wrap ((BitVec.ofInt 64 a &&& BitVec.ofInt 64 b).toNat : Int) := rfl
  rw [← e] at hr
  rw [bits_odd _ hr.1 hr.2, e, wrap_odd, BitVec.toNat_and, nat_odd_and]
  have ha := odd_of_rem _ _ (ofInt_toNat a)
  have hb := odd_of_rem _ _ (ofInt_toNat b)
  simp only [ha, hb]
  split <;> rfl
end Go.Proofs.Ytapfihlgemejiaa
-- Bits of whole numbers of 32 bits: the top bit turned, four bytes put together.
namespace Go.Proofs.Ytapfihlgemejiaa
open Go.RowKit
theorem nat_xor_top {m : Nat} (h : m < 2147483648) : m ^^^ 2147483648 = m + 2147483648 := by
  rw [show (2147483648 : Nat) = 2 ^ 31 by rfl] at *
  apply Nat.eq_of_testBit_eq
  intro i
  rw [Nat.testBit_xor, Nat.testBit_two_pow, Nat.add_comm]
  rcases Nat.lt_trichotomy i 31 with e | e | e
  · rw [Nat.testBit_two_pow_add_gt e]
    have : ¬ 31 = i := by omega
    simp [this]
  · subst e
    rw [Nat.testBit_two_pow_add_eq, Nat.testBit_lt_two_pow h]
    simp
  · have h1 : 2 ^ 31 + m < 2 ^ i := Nat.lt_of_lt_of_le (show 2 ^ 31 + m < 2 ^ 32 by omega) (Nat.pow_le_pow_right (by omega) (by omega))
    rw [Nat.testBit_lt_two_pow h1, Nat.testBit_lt_two_pow (by omega)]
    have : ¬ 31 = i := by omega
    simp [this]
theorem nat_xor_top' {m : Nat} (h : m < 4294967296) : m ^^^ 2147483648 = if m < 2147483648 then m + 2147483648 else m - 2147483648 := by
  split
  · rename_i h1; exact nat_xor_top h1
  · rename_i h1
    obtain ⟨k, rfl⟩ : ∃ k, m = k + 2147483648 := ⟨m - 2147483648, by omega⟩
    rw [← nat_xor_top (show k < 2147483648 by omega), Nat.xor_assoc, Nat.xor_self, Nat.xor_zero, nat_xor_top (by omega)]
    omega
theorem ofInt32_toNat (a : Int) : ((BitVec.ofInt 32 a).toNat : Int) = a % 4294967296 := by
  rw [BitVec.toNat_ofInt]; omega
/-- The top bit turned. -/
theorem xor_top (a : Int) : bits .xor .u32 a 2147483648 = (a + 2147483648) % 4294967296 := by
  show IntKind.u32.wrap ((BitVec.ofInt 32 a ^^^ BitVec.ofInt 32 2147483648).toNat : Int) = _
  have hb : (BitVec.ofInt 32 2147483648).toNat = 2147483648 := by rfl
  have ha := ofInt32_toNat a
  rw [BitVec.toNat_xor, hb, nat_xor_top' (BitVec.isLt _), IntKind.wrap_u32]
  split <;> omega
theorem nat_or_low {a b k : Nat} (h : b < 2 ^ k) : (a * 2 ^ k) ||| b = a * 2 ^ k + b := by
  rw [Nat.mul_comm, Nat.two_pow_add_eq_or_of_lt h]
theorem or_u32 (a b : Int) (k : Nat) (c : Nat) (ha : a = ((c * 2 ^ k : Nat) : Int)) (ha2 : a ≤ 4294967295) (hb0 : 0 ≤ b) (hb : b < 2 ^ k) (hs : a + b ≤ 4294967295) : bits .or .u32 a b = a + b := by
  show IntKind.u32.wrap ((BitVec.ofInt 32 a ||| BitVec.ofInt 32 b).toNat : Int) = _
  have h1 := ofInt32_toNat a
  have h2 := ofInt32_toNat b
  obtain ⟨b', rfl⟩ := Int.eq_ofNat_of_zero_le hb0
  have hb' : b' < 2 ^ k := by exact_mod_cast hb
  have e1 : (BitVec.ofInt 32 a).toNat = c * 2 ^ k := by omega
  have e2 : (BitVec.ofInt 32 (b' : Int)).toNat = b' := by omega
  rw [BitVec.toNat_or, e1, e2, nat_or_low hb', IntKind.wrap_u32]
  omega
/-- Four bytes as one number. -/
theorem or_bytes (a b c d : Int) (ha : 0 ≤ a ∧ a ≤ 255) (hb : 0 ≤ b ∧ b ≤ 255) (hc : 0 ≤ c ∧ c ≤ 255) (hd : 0 ≤ d ∧ d ≤ 255) :
    bits .or .u32 (bits .or .u32 (bits .or .u32 (a * 16777216) (b * 65536)) (c * 256)) d = a * 16777216 + b * 65536 + c * 256 + d := by
  obtain ⟨a', rfl⟩ := Int.eq_ofNat_of_zero_le ha.1
  obtain ⟨b', rfl⟩ := Int.eq_ofNat_of_zero_le hb.1
  obtain ⟨c', rfl⟩ := Int.eq_ofNat_of_zero_le hc.1
  rw [or_u32 (a' * 16777216) (b' * 65536) 24 a' (by rw [show (2 : Nat) ^ 24 = 16777216 by decide]; omega) (by omega) (by omega) (by omega) (by omega)]
  rw [or_u32 _ (c' * 256) 16 (a' * 256 + b') (by rw [show (2 : Nat) ^ 16 = 65536 by decide]; omega) (by omega) (by omega) (by omega) (by omega)]
  rw [or_u32 _ d 8 (a' * 65536 + b' * 256 + c') (by rw [show (2 : Nat) ^ 8 = 256 by decide]; omega) (by omega) (by omega) (by omega) (by omega)]
theorem and15 (a : Int) : bits .and .u8 a 15 = a % 16 := by
  show IntKind.u8.wrap ((BitVec.ofInt 8 a &&& BitVec.ofInt 8 15).toNat : Int) = _
  rw [BitVec.toNat_and, show (BitVec.ofInt 8 15).toNat = 2 ^ 4 - 1 from rfl, Nat.and_two_pow_sub_one_eq_mod, BitVec.toNat_ofInt, IntKind.wrap_u8]
  omega
end Go.Proofs.Ytapfihlgemejiaa
