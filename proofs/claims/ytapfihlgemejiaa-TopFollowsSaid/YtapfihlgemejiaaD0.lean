/- Walks over package dbm: open, keep, sum, few, and bound.Right: each comes to its plain function. -/
import Derived.Test.YtapfihlgemejiaaA0
import Derived.Test.YtapfihlgemejiaaM0
import Derived.Test.YtapfihlgemejiaaB0
namespace Go.Proofs.Ytapfihlgemejiaa
open Go.RowKit

def wideRow (n : Int) (L : List Int) : List Value := .int .i64 n :: L.map (Value.int .i64)
def zoneRow (n : Int) (L : List Int) : List Value := .int .i64 n :: L.map (Value.int .i32)
theorem wideRow_get (n : Int) (L : List Int) (t : Nat) (h : t < L.length) : (wideRow n L)[t + 1]? = some (.int .i64 (gt L t)) := by
  simp [wideRow, gt, h]
theorem wideRow_set (n : Int) (L : List Int) (t : Nat) (v : Int) : (wideRow n L).set (t + 1) (.int .i64 v) = wideRow n (st L t v) := by
  simp [wideRow, st, List.map_set]
theorem zoneRow_get (n : Int) (L : List Int) (t : Nat) (h : t < L.length) : (zoneRow n L)[t + 1]? = some (.int .i32 (gt L t)) := by
  simp [zoneRow, gt, h]
theorem zoneRow_set (n : Int) (L : List Int) (t : Nat) (v : Int) : (zoneRow n L).set (t + 1) (.int .i32 v) = zoneRow n (st L t v) := by
  simp [zoneRow, st, List.map_set]
theorem wide_dim {w : World} {b : Nat} {n : Int} {L : List Int} (h : Row w b 218 (wideRow n L)) : w.cell? ⟨b, 0, none⟩ = some (.int .i64 n) := h.cell 0
theorem wide_at {w : World} {b : Nat} {n : Int} {L : List Int} (h : Row w b 218 (wideRow n L)) (i j : Nat) (hL : L.length = 81) (hi : i < 9) (hj : j < 9) :
    w.cell? ⟨b, 1 + i * 9 + j, none⟩ = some (.int .i64 (gt L (9 * i + j))) := by
  rw [h.cell, show 1 + i * 9 + j = (9 * i + j) + 1 by omega, wideRow_get _ _ _ (by omega)]
theorem wide_put {w : World} {b : Nat} {n : Int} {L : List Int} (h : Row w b 218 (wideRow n L)) (i j : Nat) (v : Int) :
    Row (w.setCell ⟨b, 1 + i * 9 + j, none⟩ (.int .i64 v)) b 218 (wideRow n (st L (9 * i + j) v)) := by
  have := h.set (1 + i * 9 + j) (.int .i64 v)
  rwa [show 1 + i * 9 + j = (9 * i + j) + 1 by omega, wideRow_set, show (9 * i + j) + 1 = 1 + i * 9 + j by omega] at this
theorem zone_dim {w : World} {b : Nat} {n : Int} {L : List Int} {t : TypeId} (h : Row w b t (zoneRow n L)) : w.cell? ⟨b, 0, none⟩ = some (.int .i64 n) := h.cell 0
theorem zone_at {w : World} {b : Nat} {n : Int} {L : List Int} {t : TypeId} (h : Row w b t (zoneRow n L)) (i j : Nat) (hL : L.length = 81) (hi : i < 9) (hj : j < 9) :
    w.cell? ⟨b, 1 + i * 9 + j, none⟩ = some (.int .i32 (gt L (9 * i + j))) := by
  rw [h.cell, show 1 + i * 9 + j = (9 * i + j) + 1 by omega, zoneRow_get _ _ _ (by omega)]
theorem zone_put {w : World} {b : Nat} {n : Int} {L : List Int} {t : TypeId} (h : Row w b t (zoneRow n L)) (i j : Nat) (v : Int) :
    Row (w.setCell ⟨b, 1 + i * 9 + j, none⟩ (.int .i32 v)) b t (zoneRow n (st L (9 * i + j) v)) := by
  have := h.set (1 + i * 9 + j) (.int .i32 v)
  rwa [show 1 + i * 9 + j = (9 * i + j) + 1 by omega, zoneRow_set, show (9 * i + j) + 1 = 1 + i * 9 + j by omega] at this
theorem wide_new (w : World) (n : Nat) : Row (w.alloc (.cells (Try.zeroCells218.setIfInBounds 0 (.int .i64 (n : Int))) 218)) w.heap.size 218 (wideRow n zeros) := by
  have h : Try.zeroCells218.setIfInBounds 0 (.int .i64 (n : Int)) = (wideRow n zeros).toArray := by rfl
  rw [h]; exact Row.new _ _ _

set_option maxHeartbeats 400000 in
theorem few_any (n : Int) (w : World) :
    Calls Try.prog 83 #[.int .i64 n] w fun e w' => e = .returned (.bool (fewB n)) ∧ w = w' := by
  unfold fewB
  go_enter Try.func83, Try.ntmps83
  go_wp2
  all_goals go_ret
  · exact ⟨by simp; omega, rfl⟩
  · exact ⟨by simp; omega, rfl⟩

set_option maxHeartbeats 400000 in
theorem right_any (b : Int) (w : World) :
    Calls Try.prog 85 #[.int .i32 b] w fun e w' => e = .returned (.bool (rightB b)) ∧ w = w' := by
  have hq : rightB b = (decide (b = 2147483647) || (decide (-536870912 ≤ b) && decide (b ≤ 536870913))) := by
    unfold rightB INF; rw [Bool.eq_iff_iff]; simp
  rw [hq]
  clear hq
  by_cases h1 : b = 2147483647
  · subst h1
    go_enter Try.func85, Try.ntmps85
    go_wp2
    go_ret
    exact ⟨by simp, rfl⟩
  · have h2 : (b == 2147483647) = false := by simpa using h1
    have h3 : decide (b = 2147483647) = false := by simpa using h1
    clear h1
    go_enter Try.func85, Try.ntmps85
    go_wp2
    all_goals go_ret
    · have h4 : decide (-536870912 ≤ b) = true := decide_eq_true (by omega)
      exact ⟨by simp [h3, h4], rfl⟩
    · have h4 : decide (-536870912 ≤ b) = false := decide_eq_false (by omega)
      exact ⟨by simp [h4], rfl⟩


theorem ret_i64 {a b : Int} (h : a = b) : Ending.returned (.int .i64 a) = .returned (.int .i64 b) := by rw [h]
theorem sum_small (a b : Int) (ha : -2305843009213693952 ≤ a) (ha' : a ≤ 2305843009213693952) (hb : -2305843009213693952 ≤ b) (hb' : b ≤ 2305843009213693952) :
    wrap64 (wrap64 (bits BinOp.andNot IntKind.i64 a 1 + bits BinOp.andNot IntKind.i64 b 1) + bits BinOp.and IntKind.i64 (bits BinOp.and IntKind.i64 a b) 1) = sumI a b := by
  rw [bits_even a (by omega) (by omega), bits_even b (by omega) (by omega), bits_odd2]
  have e1 : sumI a b = if a % 2 = 1 ∨ b % 2 = 1 then a + b - 1 else a + b := by
    unfold sumI NONE; rw [if_neg (by omega)]
  rw [e1]
  unfold wrap64
  split <;> split <;> omega

set_option maxHeartbeats 400000 in
theorem sum_any (a b : Int) (w : World) (ha : a = NONE ∨ (-1152921504606846976 ≤ a ∧ a ≤ 1152921504606846976)) (hb : b = NONE ∨ (-1152921504606846976 ≤ b ∧ b ≤ 1152921504606846976)) :
    Calls Try.prog 184 #[.int .i64 a, .int .i64 b] w fun e w' => e = .returned (.int .i64 (sumI a b)) ∧ w = w' := by
  by_cases h1 : a = NONE
  · subst h1
    have hq : sumI NONE b = 4611686018427387904 := by unfold sumI; simp [NONE]
    rw [hq]; clear hq hb ha
    unfold NONE
    go_enter Try.func184, Try.ntmps184
    go_wp2
    go_ret
    exact ⟨rfl, rfl⟩
  · by_cases h2 : b = NONE
    · subst h2
      have hq : sumI a NONE = 4611686018427387904 := by unfold sumI; simp [NONE]
      rw [hq]; clear hq hb
      have h3 : (a == 4611686018427387904) = false := by unfold NONE at h1; simpa using h1
      clear h1 ha
      unfold NONE
      go_enter Try.func184, Try.ntmps184
      go_wp2
      go_ret
      exact ⟨rfl, rfl⟩
    · have hA : -1152921504606846976 ≤ a ∧ a ≤ 1152921504606846976 := ha.resolve_left h1
      have hB : -1152921504606846976 ≤ b ∧ b ≤ 1152921504606846976 := hb.resolve_left h2
      have hq := sum_small a b (by omega) (by omega) (by omega) (by omega)
      rw [← hq]; clear hq
      have h3 : (a == 4611686018427387904) = false := by unfold NONE at h1; simpa using h1
      have h4 : (b == 4611686018427387904) = false := by unfold NONE at h2; simpa using h2
      clear h1 h2 ha hb hA hB
      go_enter Try.func184, Try.ntmps184
      go_wp2
      go_ret
      exact ⟨rfl, rfl⟩

theorem ite_mn (a b : Int) : (if b < a then b else a) = mn a b := rfl

set_option maxHeartbeats 400000 in
theorem keep_inf (b : Nat) (i j : Int) (w : World) :
    Calls Try.prog 86 #[.pointer (some ⟨b, 0, none⟩), .int .i64 i, .int .i64 j, .int .i32 INF] w fun e w' => e = .returned (.tuple #[]) ∧ w = w' := by
  unfold INF
  go_enter Try.func86, Try.ntmps86
  go_wp2
  go_end0
  exact ⟨rfl, rfl⟩

set_option maxHeartbeats 400000 in
theorem keep_fin (b : Nat) (n : Int) (L : List Int) (i j : Nat) (v : Int) (w : World) (hL : L.length = 81) (hi : i < 9) (hj : j < 9)
    (hv : -536870912 ≤ v) (hv2 : v ≤ 536870913) (hw : Row w b 218 (wideRow n L)) :
    Calls Try.prog 86 #[.pointer (some ⟨b, 0, none⟩), .int .i64 i, .int .i64 j, .int .i32 v] w fun e w' => e = .returned (.tuple #[]) ∧
      w' = (w.setCell ⟨b, 1 + i * 9 + j, none⟩ (.int .i64 (mn (gt L (9 * i + j)) v))).drew := by
  have hc := wide_at hw i j hL hi hj
  have hf : w.frozen? ⟨b, 1 + i * 9 + j, none⟩ = false := hw.free _
  clear hw hL
  rw [← ite_mn]
  have h2 : (v != 2147483647) = true := by simp; omega
  go_enter Try.func86, Try.ntmps86
  go_wp2
  go_region
  go_end0
  exact ⟨rfl, rfl⟩

/-- keep: the cell is turned as 'keepL' turns it. -/
theorem keep_any (b : Nat) (n : Int) (L : List Int) (i j : Int) (v : Int) (w : World) (hL : L.length = 81) (hi0 : 0 ≤ i) (hi : i < 9) (hj0 : 0 ≤ j) (hj : j < 9)
    (hv : rightB v = true) (hw : Row w b 218 (wideRow n L)) :
    Calls Try.prog 86 #[.pointer (some ⟨b, 0, none⟩), .int .i64 i, .int .i64 j, .int .i32 v] w fun e w' => e = .returned (.tuple #[]) ∧
      Row w' b 218 (wideRow n (keepL L i.toNat j.toNat v)) ∧ At b w w' := by
  by_cases h : v = INF
  · subst h
    refine (keep_inf b i j w).mono ?_
    rintro e w' ⟨rfl, rfl⟩
    refine ⟨rfl, ?_, Fr.refl _ _⟩
    unfold keepL; rw [if_pos rfl]; exact hw
  · have hr : -536870912 ≤ v ∧ v ≤ 536870913 := by
      unfold rightB at hv
      exact (of_decide_eq_true hv).resolve_left h
    obtain ⟨i, rfl⟩ := Int.eq_ofNat_of_zero_le hi0
    obtain ⟨j, rfl⟩ := Int.eq_ofNat_of_zero_le hj0
    rw [Int.toNat_natCast, Int.toNat_natCast]
    refine (keep_fin b n L i j v w hL (by omega) (by omega) hr.1 hr.2 hw).mono ?_
    rintro e w' ⟨rfl, rfl⟩
    refine ⟨rfl, ?_, ((At.refl b w).set _ _).drew⟩
    unfold keepL; rw [if_neg h]
    exact (wide_put hw i j _).drew

set_option maxRecDepth 100000 in
set_option maxHeartbeats 400000 in
theorem open_any (n : Nat) (w : World) (hn : n ≤ 8) :
    Calls Try.prog 84 #[.int .i64 n] w fun e w' => e = .returned (.pointer (some ⟨w.heap.size, 0, none⟩)) ∧ Row w' w.heap.size 218 (wideRow n (openL n)) ∧ New w w' := by
  go_enter Try.func84, Try.ntmps84
  go_wp2
  have hw0 := wide_new w n
  have hb0 : New w (w.alloc (.cells (Try.zeroCells218.setIfInBounds 0 (.int .i64 (n : Int))) 218)) := (Fr.refl _ _).alloc _
  generalize w.alloc (.cells (Try.zeroCells218.setIfInBounds 0 (.int .i64 (n : Int))) 218) = w0 at *
  go_loopw [11] (fun c wr => ∃ i : Nat, i ≤ n + 1 ∧ c = .int .i64 i ∧ Row wr w.heap.size 218 (wideRow n (lp (fun i L => lp (fun j L => openC i j L) (n + 1) L) i zeros)) ∧ New w wr)
    (fun c _ => n + 1 - (intOf c).toNat)
  case atStart => exact ⟨0, by omega, rfl, hw0, hb0⟩
  case round =>
    obtain ⟨i, hi, rfl, hr, hb⟩ := hrel
    clear hw0 hb0
    by_cases hlt : i < n + 1
    · go_wp2
      obtain ⟨wo, rfl⟩ : ∃ wo : World, wo = wr := ⟨_, rfl⟩
      have hL0 : (lp (fun i L => lp (fun j L => openC i j L) (n + 1) L) i zeros).length = 81 := by
        rw [lp_length _ (fun i L => lp_length _ (fun j L => openC_length i j L) _ _), zeros_length]
      have hS : lp (fun i L => lp (fun j L => openC i j L) (n + 1) L) (i + 1) zeros = lp (fun j L => openC i j L) (n + 1) (lp (fun i L => lp (fun j L => openC i j L) (n + 1) L) i zeros) := rfl
      have HS := Lib.hid hS
      clear hS
      generalize lp (fun i L => lp (fun j L => openC i j L) (n + 1) L) i zeros = L0 at *
      go_loopw [16] (fun c wr => ∃ j : Nat, j ≤ n + 1 ∧ c = .int .i64 j ∧ Row wr w.heap.size 218 (wideRow n (lp (fun j L => openC i j L) j L0)) ∧ New w wr)
        (fun c _ => n + 1 - (intOf c).toNat)
      case atStart => exact ⟨0, by omega, rfl, hr, hb⟩
      case round =>
        obtain ⟨j, hj, rfl, hr, hb⟩ := hrel
        have hL : (lp (fun j L => openC i j L) j L0).length = 81 := by rw [lp_length _ (fun j L => openC_length i j L), hL0]
        have hS : lp (fun j L => openC i j L) (j + 1) L0 = openC i j (lp (fun j L => openC i j L) j L0) := rfl
        have HS2 := Lib.hid hS
        clear hS
        by_cases hjt : j < n + 1
        · have hi9 : i < 9 := by omega
          have hj9 : j < 9 := by omega
          generalize lp (fun j L => openC i j L) j L0 = M at *
          have hc := wide_at hr i j hL hi9 hj9
          have hf := hr.free (1 + i * 9 + j)
          have hs1 := wide_put hr i j NONE
          have hb1 : New w (wr.setCell ⟨w.heap.size, 1 + i * 9 + j, none⟩ (.int .i64 NONE)) := hb.set (.inr (Nat.le_refl _)) _
          have hs2 := wide_put hs1 i j 1
          have hb2 : New w ((wr.setCell ⟨w.heap.size, 1 + i * 9 + j, none⟩ (.int .i64 NONE)).setCell ⟨w.heap.size, 1 + i * 9 + j, none⟩ (.int .i64 1)) := hb1.set (.inr (Nat.le_refl _)) _
          by_cases hij : i = j
          · subst hij
            go_wp2
            refine ⟨⟨i + 1, by omega, by go_num, ?_, hb2⟩, by simp [intOf]; omega⟩
            rw [HS2.out]; unfold openC; rw [if_pos (.inl rfl)]; exact hs2
          · by_cases hi0 : i = 0
            · subst hi0
              have t1 : ((0 : Int) == (j : Int)) = false := by simp; omega
              simp only [Nat.zero_mul, Nat.add_zero] at hs2 hb2
              clear hs1 hb1
              go_wp2
              refine ⟨⟨j + 1, by omega, by go_num, ?_, hb2⟩, by simp [intOf]; omega⟩
              rw [HS2.out]; unfold openC; rw [if_pos (.inr rfl)]; exact hs2
            · have t1 : ((i : Int) == (j : Int)) = false := by simp; omega
              have t2 : ((i : Int) == 0) = false := by simp; omega
              go_wp2
              refine ⟨⟨j + 1, by omega, by go_num, ?_, hb1⟩, by simp [intOf]; omega⟩
              rw [HS2.out]; unfold openC; rw [if_neg (by omega)]; exact hs1
        · have : j = n + 1 := by omega
          subst this
          go_wp2
          refine ⟨⟨i + 1, by omega, by go_num, ?_, hb⟩, by simp [intOf]; omega⟩
          rw [HS.out]; exact hr
    · have : i = n + 1 := by omega
      subst this
      go_wp2
      go_ret
      exact ⟨rfl, hr, hb⟩
end Go.Proofs.Ytapfihlgemejiaa
