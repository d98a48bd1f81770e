/- bound: made, AtMost, LessThan, Value, product, Holds; gnomontop.which. -/
import Derived.Test.YtapfihlgemejiaaN20
import Derived.Test.YtapfihlgemejiaaN7
import Derived.Test.YtapfihlgemejiaaD0
namespace Go.Proofs.Ytapfihlgemejiaa
open Go.RowKit

set_option maxRecDepth 100000 in
set_option maxHeartbeats 400000 in
theorem product_any (a b : Int) (ha : In64 a) (hb : In64 b) (hb0 : 0 ≤ b) (w : World) :
    Calls Try.prog 114 #[.int .i64 a, .int .i64 b] w fun e w' => e = .returned (.tuple #[.int .i64 (a * b / 18446744073709551616), .int .u64 (a * b % 18446744073709551616)]) ∧ w = w' := by
  obtain ⟨a1, a2⟩ := ha
  obtain ⟨b1, b2⟩ := hb
  have hbn : ¬ b < 0 := by omega
  have eb : IntKind.u64.wrap b = (b.toNat : Int) := by rw [IntKind.wrap_u64]; omega
  by_cases h : a < 0
  · have ea : IntKind.u64.wrap a = ((a + 18446744073709551616).toNat : Int) := by rw [IntKind.wrap_u64]; omega
    have mu := fun W => mul64_any (a + 18446744073709551616).toNat b.toNat (by omega) (by omega) W
    rw [← ea, Int.toNat_of_nonneg hb0] at mu
    have hx : (((a + 18446744073709551616).toNat * b.toNat : Nat) : Int) = a * b + 18446744073709551616 * b := by
      rw [Int.natCast_mul, Int.toNat_of_nonneg (by omega), Int.toNat_of_nonneg hb0, Int.add_mul]
    have hlo : (((a + 18446744073709551616).toNat * b.toNat % 18446744073709551616 : Nat) : Int) = a * b % 18446744073709551616 := by omega
    have hhi : (((a + 18446744073709551616).toNat * b.toNat / 18446744073709551616 : Nat) : Int) = a * b / 18446744073709551616 + b := by omega
    have hr1 : a * b ≤ 0 := Int.mul_nonpos_of_nonpos_of_nonneg (by omega) hb0
    have hr2 : -9223372036854775808 * 9223372036854775807 ≤ a * b := by
      have := Int.mul_le_mul_of_nonneg_right a1 hb0
      have h5 : -9223372036854775808 * 9223372036854775807 ≤ -9223372036854775808 * b := by omega
      omega
    have e1 : wrap64 (IntKind.u64.wrap (a * b / 18446744073709551616)) = a * b / 18446744073709551616 := by
      rw [IntKind.wrap_u64]; unfold wrap64; omega
    rw [hlo, hhi] at mu
    have MU := Lib.hid mu
    clear mu ea
    generalize a * b / 18446744073709551616 = H at *
    generalize a * b % 18446744073709551616 = L at *
    have HE := Lib.hid e1
    clear hx hlo hhi hr1 hr2 e1 eb
    go_enter Try.func114, Try.ntmps114
    go_wp2_with fail
    refine (MU.out _).mono ?_
    rintro e w' ⟨rfl, rfl⟩
    go_wp2_with fail
    exact bodyPost_ret (v := .tuple #[.int .i64 (wrap64 (IntKind.u64.wrap H)), .int .u64 L]) (by simp [results, Try.results114, go_sem]) rfl ⟨by rw [HE.out], rfl⟩
  · have hx : ((a.toNat * b.toNat : Nat) : Int) = a * b := by
      rw [Int.natCast_mul, Int.toNat_of_nonneg (by omega), Int.toNat_of_nonneg hb0]
    have mu := fun W => mul64_any a.toNat b.toNat (by omega) (by omega) W
    rw [Int.toNat_of_nonneg (show 0 ≤ a by omega), Int.toNat_of_nonneg hb0] at mu
    have hlo : ((a.toNat * b.toNat % 18446744073709551616 : Nat) : Int) = a * b % 18446744073709551616 := by omega
    have hhi : ((a.toNat * b.toNat / 18446744073709551616 : Nat) : Int) = a * b / 18446744073709551616 := by omega
    have hr1 : 0 ≤ a * b := Int.mul_nonneg (by omega) hb0
    have hr2 : a * b ≤ 9223372036854775807 * 9223372036854775807 := by
      have h5 := Int.mul_le_mul a2 b2 hb0 (by omega)
      omega
    have h9 : 0 ≤ a * b / 18446744073709551616 ∧ a * b / 18446744073709551616 ≤ 9223372036854775807 := by omega
    rw [hlo, hhi] at mu
    have MU := Lib.hid mu
    clear mu
    generalize a * b / 18446744073709551616 = H at *
    generalize a * b % 18446744073709551616 = L at *
    obtain ⟨h91, h92⟩ := h9
    clear hx hlo hhi hr1 hr2 eb
    go_enter Try.func114, Try.ntmps114
    go_wp2_with fail
    refine (MU.out _).mono ?_
    rintro e w' ⟨rfl, rfl⟩
    go_wp2_with fail
    go_ret2
    exact ⟨rfl, rfl⟩
def holdsB (v : Int) (r : Bool) (num den : Int) : Bool := decide (num < v * den) || (decide (num = v * den) && r)
set_option maxRecDepth 100000 in
set_option maxHeartbeats 1000000 in
theorem holds_any (v : Int) (r : Bool) (num den : Int) (h1 : -268435456 ≤ v) (h2 : v ≤ 268435456) (hn : In64 num) (hd : In64 den) (h0 : 1 ≤ den) (w : World) :
    Calls Try.prog 45 #[.int .i32 (enc v r), .int .i64 num, .int .i64 den] w fun e w' => e = .returned (.bool (holdsB v r num den)) ∧ w = w' := by
  have VA := Lib.hid (fun W => value_any v r h1 h2 W)
  have pr := fun W => product_any v den ⟨by omega, by omega⟩ hd (by omega) W
  have hM : v * den = 18446744073709551616 * (v * den / 18446744073709551616) + v * den % 18446744073709551616 := by omega
  have hL : 0 ≤ v * den % 18446744073709551616 ∧ v * den % 18446744073709551616 < 18446744073709551616 := by omega
  have hu : IntKind.u64.wrap num = num % 18446744073709551616 := by rw [IntKind.wrap_u64]
  obtain ⟨n1, n2⟩ := hn
  unfold holdsB
  generalize v * den = M at *
  generalize M / 18446744073709551616 = H at *
  generalize M % 18446744073709551616 = L at *
  generalize enc v r = b at *
  have PR := Lib.hid pr
  obtain ⟨hL0, hL1⟩ := hL
  have hden : ¬ den < 1 := by omega
  clear pr hd h1 h2
  by_cases hneg : num < 0
  · have key : (decide (num < M) || (decide (num = M) && r)) = if (-1 : Int) = H then (decide (num + 18446744073709551616 < L) || (decide (num + 18446744073709551616 = L) && r)) else decide (-1 < H) := by
      split
      · rename_i h9; subst h9
        rw [show decide (num < M) = decide (num + 18446744073709551616 < L) from decide_eq_decide.2 (by omega), show decide (num = M) = decide (num + 18446744073709551616 = L) from decide_eq_decide.2 (by omega)]
      · rename_i h9
        rw [show decide (num = M) = false from decide_eq_false (by omega), Bool.false_and, Bool.or_false]
        exact decide_eq_decide.2 (by omega)
    have hu' : IntKind.u64.wrap num = num + 18446744073709551616 := by rw [hu]; omega
    rw [key]
    have hN0 : 0 ≤ num + 18446744073709551616 := by omega
    have hN1 : num + 18446744073709551616 < 18446744073709551616 := by omega
    clear key hM hu
    generalize num + 18446744073709551616 = N at *
    by_cases h9 : (-1 : Int) = H
    · subst h9
      rw [if_pos rfl]
      rcases Int.lt_trichotomy N L with g | g | g
      · rw [show decide (N < L) = true from decide_eq_true g, Bool.true_or]
        go_enter Try.func45, Try.ntmps45
        go_wp2_with fail
        refine (VA.out _).mono ?_
        rintro e w' ⟨rfl, rfl⟩
        go_wp2_with fail
        refine (PR.out _).mono ?_
        rintro e w' ⟨rfl, rfl⟩
        go_wp2_with fail
        go_ret
        exact ⟨rfl, rfl⟩
      · subst g
        rw [show decide (N < N) = false from decide_eq_false (by omega), show decide (N = N) = true from decide_eq_true rfl, Bool.false_or, Bool.true_and]
        have hg : ¬ N < N := by omega
        go_enter Try.func45, Try.ntmps45
        go_wp2_with fail
        refine (VA.out _).mono ?_
        rintro e w' ⟨rfl, rfl⟩
        go_wp2_with fail
        refine (PR.out _).mono ?_
        rintro e w' ⟨rfl, rfl⟩
        go_wp2_with fail
        go_ret
        exact ⟨by simp, rfl⟩
      · rw [show decide (N < L) = false from decide_eq_false (by omega), show decide (N = L) = false from decide_eq_false (by omega), Bool.false_or, Bool.false_and]
        have hg : ¬ N < L := by omega
        have hg2 : (N == L) = false := by simp; omega
        have HG := Lib.hid g
        clear g
        go_enter Try.func45, Try.ntmps45
        go_wp2_with fail
        refine (VA.out _).mono ?_
        rintro e w' ⟨rfl, rfl⟩
        go_wp2_with fail
        refine (PR.out _).mono ?_
        rintro e w' ⟨rfl, rfl⟩
        go_wp2_with fail
        go_ret
        exact ⟨by simp; exact Int.le_of_lt HG.out, rfl⟩
    · rw [if_neg h9]
      have h9' : ((-1 : Int) == H) = false := by simpa using h9
      have h9'' : ((-1 : Int) != H) = true := by simpa using h9
      go_enter Try.func45, Try.ntmps45
      go_wp2_with fail
      refine (VA.out _).mono ?_
      rintro e w' ⟨rfl, rfl⟩
      go_wp2_with fail
      refine (PR.out _).mono ?_
      rintro e w' ⟨rfl, rfl⟩
      go_wp2_with fail
      go_ret
      exact ⟨rfl, rfl⟩
  · have key : (decide (num < M) || (decide (num = M) && r)) = if (0 : Int) = H then (decide (num < L) || (decide (num = L) && r)) else decide (0 < H) := by
      split
      · rename_i h9; subst h9
        rw [show decide (num < M) = decide (num < L) from decide_eq_decide.2 (by omega), show decide (num = M) = decide (num = L) from decide_eq_decide.2 (by omega)]
      · rename_i h9
        rw [show decide (num = M) = false from decide_eq_false (by omega), Bool.false_and, Bool.or_false]
        exact decide_eq_decide.2 (by omega)
    rw [key]
    have hn0 : 0 ≤ num := by omega
    clear key hM hu
    by_cases h9 : (0 : Int) = H
    · subst h9
      rw [if_pos rfl]
      rcases Int.lt_trichotomy num L with g | g | g
      · rw [show decide (num < L) = true from decide_eq_true g, Bool.true_or]
        go_enter Try.func45, Try.ntmps45
        go_wp2_with fail
        refine (VA.out _).mono ?_
        rintro e w' ⟨rfl, rfl⟩
        go_wp2_with fail
        refine (PR.out _).mono ?_
        rintro e w' ⟨rfl, rfl⟩
        go_wp2_with fail
        go_ret
        exact ⟨rfl, rfl⟩
      · subst g
        rw [show decide (num < num) = false from decide_eq_false (by omega), show decide (num = num) = true from decide_eq_true rfl, Bool.false_or, Bool.true_and]
        have hg : ¬ num < num := by omega
        go_enter Try.func45, Try.ntmps45
        go_wp2_with fail
        refine (VA.out _).mono ?_
        rintro e w' ⟨rfl, rfl⟩
        go_wp2_with fail
        refine (PR.out _).mono ?_
        rintro e w' ⟨rfl, rfl⟩
        go_wp2_with fail
        go_ret
        exact ⟨by simp, rfl⟩
      · rw [show decide (num < L) = false from decide_eq_false (by omega), show decide (num = L) = false from decide_eq_false (by omega), Bool.false_or, Bool.false_and]
        have hg : ¬ num < L := by omega
        have hg2 : (num == L) = false := by simp; omega
        have HG := Lib.hid g
        clear g
        go_enter Try.func45, Try.ntmps45
        go_wp2_with fail
        refine (VA.out _).mono ?_
        rintro e w' ⟨rfl, rfl⟩
        go_wp2_with fail
        refine (PR.out _).mono ?_
        rintro e w' ⟨rfl, rfl⟩
        go_wp2_with fail
        go_ret
        exact ⟨by simp; exact Int.le_of_lt HG.out, rfl⟩
    · rw [if_neg h9]
      have h9' : ((0 : Int) == H) = false := by simpa using h9
      have h9'' : ((0 : Int) != H) = true := by simpa using h9
      go_enter Try.func45, Try.ntmps45
      go_wp2_with fail
      refine (VA.out _).mono ?_
      rintro e w' ⟨rfl, rfl⟩
      go_wp2_with fail
      refine (PR.out _).mono ?_
      rintro e w' ⟨rfl, rfl⟩
      go_wp2_with fail
      go_ret
      exact ⟨rfl, rfl⟩
theorem tmod_which (n m : Int) (h0 : 0 < m) : (if n.tmod m < 0 then n.tmod m + m else n.tmod m) = n % m := by
  have h1 := Int.emod_nonneg n (show m ≠ 0 by omega)
  have h2 := Int.emod_lt_of_pos n h0
  rw [Int.tmod_eq_emod]
  by_cases h : 0 ≤ n ∨ m ∣ n
  · rw [if_pos h]; rw [if_neg (by omega)]; omega
  · rw [if_neg h]
    have h3 : n % m ≠ 0 := fun e => h (.inr (Int.dvd_of_emod_eq_zero e))
    rw [if_pos (by omega)]; omega
theorem tmod_low (n m : Int) (h0 : 0 < m) : -m < n.tmod m := by
  have h1 := Int.emod_nonneg n (show m ≠ 0 by omega)
  have h2 := Int.emod_lt_of_pos n h0
  rw [Int.tmod_eq_emod]
  by_cases h : 0 ≤ n ∨ m ∣ n
  · rw [if_pos h]; omega
  · rw [if_neg h]
    have h3 : n % m ≠ 0 := fun e => h (.inr (Int.dvd_of_emod_eq_zero e))
    omega
set_option maxHeartbeats 400000 in
theorem which_any (n m : Int) (h0 : 0 < m) (h1 : m ≤ 1000000) (w : World) :
    Calls Try.prog 40 #[.int .i64 n, .int .i64 m] w fun e w' => e = .returned (.int .i64 (n % m)) ∧ w = w' := by
  have e := tmod_which n m h0
  have hm : (m == 0) = false := by simp; omega
  have b1 : n.tmod m < m := Int.tmod_lt_of_pos n h0
  have b2 := tmod_low n m h0
  rw [← e]
  clear e
  by_cases h : n.tmod m < 0
  · rw [if_pos h]
    go_enter Try.func40, Try.ntmps40
    go_wp2_with fail
    go_ret
    exact ⟨rfl, rfl⟩
  · rw [if_neg h]
    go_enter Try.func40, Try.ntmps40
    go_wp2_with fail
    go_ret
    exact ⟨rfl, rfl⟩
end Go.Proofs.Ytapfihlgemejiaa
