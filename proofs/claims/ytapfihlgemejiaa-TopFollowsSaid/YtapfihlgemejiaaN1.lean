/- math/bits by contract; the methods of rat.size: isZero, plus, less, compare. -/
import Derived.Test.YtapfihlgemejiaaB0
import Derived.Test.YtapfihlgemejiaaN0
import Derived.Shelf.Spec.BitsCarry
import Derived.Shelf.Bits.Mul64
import Derived.Deep.RegionHeld3
namespace Go.Proofs.Ytapfihlgemejiaa
open Go.RowKit

theorem add64 (x y c : Int) (hx : 0 ≤ x) (hy : 0 ≤ y) (hc0 : 0 ≤ c) (hc : c ≤ 1) (w : World) : (callFunc 185 #[.int .u64 x, .int .u64 y, .int .u64 c]).run Try.prog w =
    .ok (.value (.tuple #[.int .u64 ((x + y + c) % 18446744073709551616), .int .u64 ((x + y + c) / 18446744073709551616)])) w := by
  rw [run_callFunc_extern Try.func185 (by kernel_rfl) (by kernel_rfl) (by kernel_rfl) (e := add64Entry) (by kernel_rfl), run_add64 x y c hx hy hc0 hc]
  rfl
theorem sub64 (x y b : Int) (hx : 0 ≤ x) (hy : 0 ≤ y) (hy' : y < 18446744073709551616) (hb0 : 0 ≤ b) (hb : b ≤ 1) (w : World) : (callFunc 188 #[.int .u64 x, .int .u64 y, .int .u64 b]).run Try.prog w =
    .ok (.value (.tuple #[.int .u64 ((x - y - b) % 18446744073709551616), .int .u64 (if x < y + b then 1 else 0)])) w := by
  obtain ⟨x, rfl⟩ := Int.eq_ofNat_of_zero_le hx
  obtain ⟨y, rfl⟩ := Int.eq_ofNat_of_zero_le hy
  obtain ⟨b, rfl⟩ := Int.eq_ofNat_of_zero_le hb0
  have e1 : (((x + 18446744073709551616 - y - b) % 18446744073709551616 : Nat) : Int) = ((x : Int) - y - b) % 18446744073709551616 := by omega
  have e2 : ((if x < y + b then 1 else 0 : Nat) : Int) = if (x : Int) < y + b then 1 else 0 := by split <;> split <;> omega
  rw [← e1, ← e2, run_callFunc_extern Try.func188 (by kernel_rfl) (by kernel_rfl) (by kernel_rfl) (e := sub64Entry) (by kernel_rfl), run_sub64 x y b (by omega)]
  rfl
theorem add64_0 (x y : Int) (hx : 0 ≤ x) (hy : 0 ≤ y) (w : World) : (callFunc 185 #[.int .u64 x, .int .u64 y, .int .u64 0]).run Try.prog w =
    .ok (.value (.tuple #[.int .u64 ((x + y) % 18446744073709551616), .int .u64 ((x + y) / 18446744073709551616)])) w := by
  simpa using add64 x y 0 hx hy (Int.le_refl 0) (by decide) w
def bor (x y : Int) : Int := if x < y then 1 else 0
theorem bor_bd (x y : Int) : 0 ≤ bor x y ∧ bor x y ≤ 1 := by unfold bor; split <;> omega
theorem sub64_0 (x y : Int) (hx : 0 ≤ x) (hy : 0 ≤ y) (hy' : y < 18446744073709551616) (w : World) : (callFunc 188 #[.int .u64 x, .int .u64 y, .int .u64 0]).run Try.prog w =
    .ok (.value (.tuple #[.int .u64 ((x - y) % 18446744073709551616), .int .u64 (bor x y)])) w := by
  simpa [bor] using sub64 x y 0 hx hy hy' (Int.le_refl 0) (by decide) w
theorem sub64_b (x y b : Int) (hx : 0 ≤ x) (hy : 0 ≤ y) (hy' : y < 18446744073709551616) (hb0 : 0 ≤ b) (hb : b ≤ 1) (w : World) : (callFunc 188 #[.int .u64 x, .int .u64 y, .int .u64 b]).run Try.prog w =
    .ok (.value (.tuple #[.int .u64 ((x - y - b) % 18446744073709551616), .int .u64 (bor x (y + b))])) w := sub64 x y b hx hy hy' hb0 hb w

set_option maxHeartbeats 1000000 in
theorem mul64_any (x y : Nat) (hx : x < 18446744073709551616) (hy : y < 18446744073709551616) (w : World) :
    Calls Try.prog 160 #[.int .u64 x, .int .u64 y] w fun e w' => e = .returned (.tuple #[.int .u64 ((x * y / 18446744073709551616 : Nat) : Int), .int .u64 ((x * y % 18446744073709551616 : Nat) : Int)]) ∧ w = w' := by
  obtain ⟨bd, bt, bw, hhi⟩ := Lib.mul64_hi x y hx hy
  have ba := Lib.half_mul_le (a := x / 4294967296) (b := y / 4294967296) (by omega) (by omega)
  have bb := Lib.half_mul_le (a := x / 4294967296) (b := y % 4294967296) (by omega) (by omega)
  have bc := Lib.half_mul_le (a := x % 4294967296) (b := y / 4294967296) (by omega) (by omega)
  have ba' : x / 4294967296 * (y / 4294967296) < 18446744073709551616 := by omega
  have bb' : x / 4294967296 * (y % 4294967296) < 18446744073709551616 := by omega
  have bc' : x % 4294967296 * (y / 4294967296) < 18446744073709551616 := by omega
  have bh1 : x / 4294967296 * (y / 4294967296) + (x / 4294967296 * (y % 4294967296) + x % 4294967296 * (y % 4294967296) / 4294967296) / 4294967296 < 18446744073709551616 := by omega
  have bh : x / 4294967296 * (y / 4294967296) + (x / 4294967296 * (y % 4294967296) + x % 4294967296 * (y % 4294967296) / 4294967296) / 4294967296 + ((x / 4294967296 * (y % 4294967296) + x % 4294967296 * (y % 4294967296) / 4294967296) % 4294967296 + x % 4294967296 * (y / 4294967296)) / 4294967296 < 18446744073709551616 := by omega
  go_enter Try.func160, Try.ntmps160
  go_wp2
  simp only [Mul64.maskN x hx, Mul64.maskN y hy, Mul64.divN, Mul64.mulN, Mul64.addN, Mul64.wrapN _ bd, Mul64.wrapN _ bb', Mul64.wrapN _ bt, Mul64.maskN _ bt, Mul64.wrapN _ bc', Mul64.wrapN _ bw, Mul64.wrapN _ ba', Mul64.wrapN _ bh1, Mul64.wrapN _ bh, Mul64.wrapM (x * y)]
  rw [hhi]
  go_ret2
  exact ⟨rfl, rfl⟩

def zeroB (n : Nat) : Bool := decide (n = 0)
/-- A number of two words. -/
def two (h l : Nat) : Nat := h * 18446744073709551616 + l
theorem two_lt {h l : Nat} (hh : h < 18446744073709551616) (hl : l < 18446744073709551616) : two h l < 340282366920938463463374607431768211456 := by unfold two; omega
theorem two_parts (n : Nat) : two (n / 18446744073709551616) (n % 18446744073709551616) = n := by unfold two; omega
theorem zeroB_hi {h l : Nat} (hh : 0 < h) : zeroB (two h l) = false := by unfold zeroB two; exact decide_eq_false (by omega)
theorem zeroB_lo (l : Nat) : zeroB (two 0 l) = ((l : Int) == 0) := by unfold zeroB two; rw [Bool.eq_iff_iff]; simp
set_option maxHeartbeats 400000 in
theorem isZero_any (h l : Nat) (w : World) :
    Calls Try.prog 112 #[.agg #[.int .u64 h, .int .u64 l]] w fun e w' => e = .returned (.bool (zeroB (two h l))) ∧ New w w' := by
  by_cases hh : h = 0
  · subst hh
    rw [zeroB_lo]
    go_enter Try.func112, Try.ntmps112
    go_wp2
    go_ret
    exact ⟨by simp, (New.refl w).alloc _⟩
  · rw [zeroB_hi (by omega)]
    have h0 : decide ((h : Int) = 0) = false := decide_eq_false (by omega)
    go_enter Try.func112, Try.ntmps112
    go_wp2
    go_ret
    exact ⟨by simp, (New.refl w).alloc _⟩
set_option maxHeartbeats 400000 in
theorem plus_any (ah al bh bl : Nat) (h1 : ah < 18446744073709551616) (h2 : al < 18446744073709551616) (h3 : bh < 18446744073709551616) (h4 : bl < 18446744073709551616)
    (hs : two ah al + two bh bl < 340282366920938463463374607431768211456) (w : World) :
    Calls Try.prog 161 #[.agg #[.int .u64 ah, .int .u64 al], .agg #[.int .u64 bh, .int .u64 bl]] w fun e w' =>
      e = .returned (.agg #[.int .u64 (((two ah al + two bh bl) / 18446744073709551616 : Nat) : Int), .int .u64 (((two ah al + two bh bl) % 18446744073709551616 : Nat) : Int)]) ∧ New w w' := by
  have e1 : (((two ah al + two bh bl) / 18446744073709551616 : Nat) : Int) = ((ah : Int) + bh + ((al : Int) + bl) / 18446744073709551616) % 18446744073709551616 := by unfold two at *; omega
  have e2 : (((two ah al + two bh bl) % 18446744073709551616 : Nat) : Int) = ((al : Int) + bl) % 18446744073709551616 := by unfold two at *; omega
  rw [e1, e2]
  clear e1 e2 hs
  have a1 : (0 : Int) ≤ ah := by omega
  have a2 : (0 : Int) ≤ al := by omega
  have a3 : (0 : Int) ≤ bh := by omega
  have a4 : (0 : Int) ≤ bl := by omega
  have k0 : 0 ≤ ((al : Int) + bl) / 18446744073709551616 := by omega
  have k1 : ((al : Int) + bl) / 18446744073709551616 ≤ 1 := by omega
  go_enter Try.func161, Try.ntmps161
  go_wp2_with (first | simp only [add64_0 al bl a2 a4] | simp only [add64 ah bh _ a1 a3 k0 k1])
  simp [bodyPost, results, Try.results161, go_sem]
  exact (((New.refl w).alloc _).alloc _).alloc _
set_option maxHeartbeats 400000 in
theorem less_any (ah al bh bl : Nat) (h1 : ah < 18446744073709551616) (h2 : al < 18446744073709551616) (h3 : bh < 18446744073709551616) (h4 : bl < 18446744073709551616)
    (hs : two bh bl ≤ two ah al) (w : World) :
    Calls Try.prog 163 #[.agg #[.int .u64 ah, .int .u64 al], .agg #[.int .u64 bh, .int .u64 bl]] w fun e w' =>
      e = .returned (.agg #[.int .u64 (((two ah al - two bh bl) / 18446744073709551616 : Nat) : Int), .int .u64 (((two ah al - two bh bl) % 18446744073709551616 : Nat) : Int)]) ∧ New w w' := by
  have e1 : (((two ah al - two bh bl) / 18446744073709551616 : Nat) : Int) = ((ah : Int) - bh - bor al bl) % 18446744073709551616 := by unfold bor; unfold two at *; split <;> omega
  have e2 : (((two ah al - two bh bl) % 18446744073709551616 : Nat) : Int) = ((al : Int) - bl) % 18446744073709551616 := by unfold two at *; omega
  rw [e1, e2]
  clear e1 e2 hs
  have a1 : (0 : Int) ≤ ah := by omega
  have a2 : (0 : Int) ≤ al := by omega
  have a3 : (0 : Int) ≤ bh := by omega
  have a4 : (0 : Int) ≤ bl := by omega
  have b3 : (bh : Int) < 18446744073709551616 := by omega
  have b4 : (bl : Int) < 18446744073709551616 := by omega
  obtain ⟨k0, k1⟩ := bor_bd al bl
  go_enter Try.func163, Try.ntmps163
  go_wp2_with (first | simp only [sub64_0 al bl a2 a4 b4] | simp only [sub64_b ah bh _ a1 a3 b3 k0 k1])
  simp [bodyPost, results, Try.results163, go_sem]
  exact (((New.refl w).alloc _).alloc _).alloc _

def cmpN (a b : Nat) : Int := if a < b then -1 else if b < a then 1 else 0
theorem cmpN_lt {a b : Nat} (h : a < b) : cmpN a b = -1 := by unfold cmpN; rw [if_pos h]
theorem cmpN_gt {a b : Nat} (h : b < a) : cmpN a b = 1 := by unfold cmpN; rw [if_neg (by omega), if_pos h]
theorem cmpN_eq (a : Nat) : cmpN a a = 0 := by unfold cmpN; simp
set_option maxHeartbeats 400000 in
theorem isNaN_any (x : Int) (w : World) :
    Calls Try.prog 194 #[.int .u64 x] w fun e w' => e = .returned (.bool false) ∧ w = w' := by
  go_enter Try.func194, Try.ntmps194
  go_wp2
  go_ret
  exact ⟨by simp, rfl⟩
set_option maxHeartbeats 400000 in
theorem cmpCompare_any (x y : Nat) (w : World) :
    Calls Try.prog 187 #[.int .u64 x, .int .u64 y] w fun e w' => e = .returned (.int .i64 (cmpN x y)) ∧ w = w' := by
  rcases Nat.lt_trichotomy x y with h | h | h
  · rw [cmpN_lt h]
    have h' : (x : Int) < y := by omega
    go_enter Try.func187, Try.ntmps187
    go_wp2_with (go_at_call 194; refine (isNaN_any _ _).mono ?_; rintro e w' ⟨rfl, rfl⟩)
    all_goals go_ret
    all_goals exact ⟨rfl, rfl⟩
  · subst h
    rw [cmpN_eq]
    go_enter Try.func187, Try.ntmps187
    go_wp2_with (go_at_call 194; refine (isNaN_any _ _).mono ?_; rintro e w' ⟨rfl, rfl⟩)
    all_goals go_ret
    all_goals exact ⟨rfl, rfl⟩
  · rw [cmpN_gt h]
    have h' : (y : Int) < x := by omega
    have h'' : ¬ (x : Int) < y := by omega
    go_enter Try.func187, Try.ntmps187
    go_wp2_with (go_at_call 194; refine (isNaN_any _ _).mono ?_; rintro e w' ⟨rfl, rfl⟩)
    all_goals go_ret
    all_goals exact ⟨rfl, rfl⟩
theorem retI {k : IntKind} {a b : Int} (h : a = b) : Ending.returned (.int k a) = .returned (.int k b) := by rw [h]
def orI (a b : Int) : Int := if a ≠ 0 then a else b
theorem cmpN_two {ah al bh bl : Nat} (h2 : al < 18446744073709551616) (h4 : bl < 18446744073709551616) : cmpN (two ah al) (two bh bl) = orI (cmpN ah bh) (cmpN al bl) := by
  unfold orI cmpN two
  (repeat' split) <;> omega
set_option maxHeartbeats 400000 in
theorem cmpOr_any (g : Nat) (a b : Int) (c : Nat) (w : World) (h0 : w.cell? ⟨g, 0, none⟩ = some (.int .i64 a)) (h1 : w.cell? ⟨g, 1, none⟩ = some (.int .i64 b)) :
    Calls Try.prog 186 #[.slice (some ⟨g, 0, none⟩) 2 c] w fun e w' => e = .returned (.int .i64 (orI a b)) ∧ w = w' := by
  go_enter Try.func186, Try.ntmps186
  go_wp2
  go_loop [8] (fun i => ∃ k : Nat, k ≤ 2 ∧ i = .int .i64 k ∧ (1 ≤ k → a = 0) ∧ (2 ≤ k → b = 0)) (fun i => 2 - (intOf i).toNat)
  case atStart => exact ⟨0, by omega, rfl, by omega, by omega⟩
  case round =>
    obtain ⟨k, hk, rfl, ha, hb⟩ := hrel
    rcases (show k = 0 ∨ k = 1 ∨ k = 2 by omega) with rfl | rfl | rfl
    · by_cases h : a = 0
      · subst h
        go_wp2
        go_round
        case rel => exact ⟨1, by omega, rfl, (by simp), (by simp)⟩
        case measure => simp [intOf]
      · have h' : (a == 0) = false := by simpa using h
        have h'' : (a != 0) = true := by simpa using h
        have e : orI a b = a := by unfold orI; rw [if_pos h]
        have E := Lib.hid e
        clear e h
        go_wp2
        go_ret
        exact ⟨retI E.out.symm, rfl⟩
    · obtain rfl : a = 0 := ha (by omega)
      have E := Lib.hid (show orI 0 b = b by unfold orI; simp)
      by_cases h : b = 0
      · subst h
        go_wp2
        go_round
        case rel => exact ⟨2, by omega, rfl, (by simp), (by simp)⟩
        case measure => simp [intOf]
      · have h' : (b == 0) = false := by simpa using h
        have h'' : (b != 0) = true := by simpa using h
        clear h
        go_wp2
        go_ret
        exact ⟨retI E.out.symm, rfl⟩
    · obtain rfl : a = 0 := ha (by omega)
      obtain rfl : b = 0 := hb (by omega)
      have E := Lib.hid (show orI 0 0 = 0 by unfold orI; simp)
      go_wp2
      go_ret
      exact ⟨retI E.out.symm, rfl⟩
end Go.Proofs.Ytapfihlgemejiaa
