/- Facts on bits of whole numbers of 64 bits. | Bits of whole numbers of 32 bits: the top bit turned, four bytes put together. -/
import Derived.Test.YtapfihlgemejiaaVM0
import Derived.Laws.BitsAllLaws
import Derived.Laws.BitsLemmas
namespace Go.Proofs.Ytapfihlgemejiaa
open Go.RowKit
theorem bv_even (x : BitVec 64) : x &&& ~~~ (1#64) = (x >>> 1) <<< 1 := by
  apply BitVec.eq_of_getLsbD_eq
  intro i hi
  simp only [BitVec.getLsbD_and, BitVec.getLsbD_not, BitVec.getLsbD_shiftLeft, BitVec.getLsbD_ushiftRight, BitVec.getLsbD_one]
  by_cases h0 : i = 0
  · subst h0; simp
  · simp only [h0, hi, decide_true, decide_false, Bool.true_and]
    have : ¬ i < 1 := by omega
    simp only [this, decide_false, Bool.not_false, Bool.true_and]
    rw [show 1 + (i - 1) = i by omega]
    simp
theorem bv_even_nat (x : BitVec 64) : (x &&& ~~~ (1#64)).toNat = x.toNat - x.toNat % 2 := by
  rw [bv_even, BitVec.toNat_shiftLeft, BitVec.toNat_ushiftRight, Nat.shiftLeft_eq, Nat.shiftRight_eq_div_pow]
  have := x.isLt
  omega
theorem wrap_i64_of (a : Int) (n : Nat) (h1 : -9223372036854775808 ≤ a) (h2 : a ≤ 9223372036854775807) (h : (n : Int) % 18446744073709551616 = a % 18446744073709551616) : IntKind.i64.wrap (n : Int) = a := by
  rw [IntKind.wrap_i64]
  omega
theorem ofInt_toNat (a : Int) : ((BitVec.ofInt 64 a).toNat : Int) = a % 18446744073709551616 := by
  rw [BitVec.toNat_ofInt]
  omega
theorem bits_even (a : Int) (h1 : -9223372036854775808 ≤ a) (h2 : a ≤ 9223372036854775807) : bits .andNot .i64 a 1 = a - a % 2 := by
  show IntKind.i64.wrap ((BitVec.ofInt 64 a &&& ~~~ (BitVec.ofInt 64 1)).toNat : Int) = _
  apply wrap_i64_of _ _ (by omega) (by omega)
  rw [show BitVec.ofInt 64 1 = 1#64 from rfl, bv_even_nat]
  have := ofInt_toNat a
  omega
theorem bv_odd_nat (x : BitVec 64) : (x &&& 1#64).toNat = x.toNat % 2 := by
  rw [BitVec.toNat_and]; exact nat_mask1 _
theorem bits_odd (a : Int) (_h1 : -9223372036854775808 ≤ a) (_h2 : a ≤ 9223372036854775807) : bits .and .i64 a 1 = a % 2 := by
  show IntKind.i64.wrap ((BitVec.ofInt 64 a &&& (BitVec.ofInt 64 1)).toNat : Int) = _
  apply wrap_i64_of _ _ (by omega) (by omega)
  rw [show BitVec.ofInt 64 1 = 1#64 from rfl, bv_odd_nat]
  have := ofInt_toNat a
  omega
theorem nat_odd_and (m n : Nat) : (m &&& n) % 2 = if m % 2 = 1 ∧ n % 2 = 1 then 1 else 0 := by
  rw [← nat_mask1, Nat.and_assoc, nat_mask1]
  rcases Nat.mod_two_eq_zero_or_one n with h | h
  · rw [h]; simp
  · rw [h, nat_mask1]
    rcases Nat.mod_two_eq_zero_or_one m with h' | h' <;> simp [h']
theorem odd_of_rem (m : Nat) (a : Int) (h : (m : Int) = a % 18446744073709551616) : (m % 2 = 1) = (a % 2 = 1) := by
  apply propext; constructor <;> intro h1 <;> omega
theorem wrap_odd (n : Nat) : IntKind.i64.wrap (n : Int) % 2 = ((n % 2 : Nat) : Int) := by
  rw [IntKind.wrap_i64]; omega
theorem wrap_range (n : Int) : -9223372036854775808 ≤ IntKind.i64.wrap n ∧ IntKind.i64.wrap n ≤ 9223372036854775807 := by
  rw [IntKind.wrap_i64]; omega
theorem bits_odd2 (a b : Int) : bits .and .i64 (bits .and .i64 a b) 1 = if a % 2 = 1 ∧ b % 2 = 1 then 1 else 0 := by
  have hr := wrap_range ((BitVec.ofInt 64 a &&& BitVec.ofInt 64 b).toNat : Int)
  have e : bits .and .i64 a b = IntKind.i64.wrap ((BitVec.ofInt 64 a &&& BitVec.ofInt 64 b).toNat : Int) := rfl
  rw [← e] at hr
  rw [bits_odd _ hr.1 hr.2, e, wrap_odd, BitVec.toNat_and, nat_odd_and]
  have ha := odd_of_rem _ _ (ofInt_toNat a)
  have hb := odd_of_rem _ _ (ofInt_toNat b)
  simp only [ha, hb]
  split <;> rfl
end Go.Proofs.Ytapfihlgemejiaa
namespace Go.Proofs.Ytapfihlgemejiaa
open Go.RowKit
end Go.Proofs.Ytapfihlgemejiaa
