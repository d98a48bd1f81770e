/- Walks over package dbm: Of, Limits, Zero. | Walks over package dbm: Limits, Zero. -/
import Derived.Test.YtapfihlgemejiaaD1
import Derived.Test.YtapfihlgemejiaaM2
import Derived.Test.YtapfihlgemejiaaA0
-- Walks over package dbm: Of, Limits, Zero.
namespace Go.Proofs.Ytapfihlgemejiaa
open Go.RowKit

theorem fewB_true {n : Int} (h : fewB n = true) : 0 ≤ n ∧ n ≤ 8 := of_decide_eq_true h
theorem fewB_false {n : Int} (h : fewB n = false) : ¬ (0 ≤ n ∧ n ≤ 8) := of_decide_eq_false h
theorem ofZ_few {n : Int} {cells : List Int} (h : fewB n = false) : ofZ n cells = .err 12 := by unfold ofZ; rw [if_pos h]
theorem ofZ_long {n : Int} {cells : List Int} (h : fewB n = true) (h2 : (cells.length : Int) ≠ (n + 1) * (n + 1)) : ofZ n cells = .err 6 := by
  unfold ofZ; rw [if_neg (by rw [h]; decide), if_pos h2]
theorem ofZ_form {n : Nat} {cells : List Int} (h : fewB n = true) (h2 : (cells.length : Int) = ((n : Int) + 1) * ((n : Int) + 1)) (h3 : ofL n cells = none) : ofZ n cells = .err 7 := by
  unfold ofZ; rw [if_neg (by rw [h]; decide), if_neg (by rw [h2]; simp), Int.toNat_natCast, h3]
theorem ofZ_some {n : Nat} {cells L : List Int} (h : fewB n = true) (h2 : (cells.length : Int) = ((n : Int) + 1) * ((n : Int) + 1)) (h3 : ofL n cells = some L) : ofZ n cells = zoneOf n L := by
  unfold ofZ; rw [if_neg (by rw [h]; decide), if_neg (by rw [h2]; simp), Int.toNat_natCast, h3]

theorem of_few (n : Int) (A : Option Addr) (m c : Nat) (w : World) (hn : fewB n = false) :
    Calls Try.prog 26 #[.int .i64 n, .slice A m c] w fun e w' => e = .returned (.tuple #[.pointer none, .int .i64 12]) ∧ w = w' := by
  have hf := few_any n w
  rw [hn] at hf
  have HF := Lib.hid hf
  clear hf hn
  go_enter Try.func26, Try.ntmps26
  go_wp2_with (go_at_call 83; refine HF.out.mono ?_; rintro e w' ⟨rfl, rfl⟩)
  go_ret2
  exact ⟨rfl, rfl⟩

theorem of_long (n : Int) (A : Option Addr) (m c : Nat) (w : World) (hn : fewB n = true) (hm : (m : Int) ≠ (n + 1) * (n + 1)) :
    Calls Try.prog 26 #[.int .i64 n, .slice A m c] w fun e w' => e = .returned (.tuple #[.pointer none, .int .i64 6]) ∧ w = w' := by
  have hf := few_any n w
  rw [hn] at hf
  have HF := Lib.hid hf
  have hb := fewB_true hn
  have h1 : wrap64 ((n + 1) * (n + 1)) = (n + 1) * (n + 1) := by
    have : n = 0 ∨ n = 1 ∨ n = 2 ∨ n = 3 ∨ n = 4 ∨ n = 5 ∨ n = 6 ∨ n = 7 ∨ n = 8 := by omega
    rcases this with h | h | h | h | h | h | h | h | h <;> subst h <;> unfold wrap64 <;> omega
  have h2 : ((m : Int) != (n + 1) * (n + 1)) = true := by simpa using hm
  clear hf hn hm
  have hb1 := hb.1
  have hb2 := hb.2
  clear hb
  go_enter Try.func26, Try.ntmps26
  go_wp2_with (go_at_call 83; refine HF.out.mono ?_; rintro e w' ⟨rfl, rfl⟩)
  go_ret2
  exact ⟨rfl, rfl⟩

theorem square_wrap (n : Nat) (hn : n ≤ 8) : wrap64 (((n : Int) + 1) * ((n : Int) + 1)) = ((n : Int) + 1) * ((n : Int) + 1) := by
  have : n = 0 ∨ n = 1 ∨ n = 2 ∨ n = 3 ∨ n = 4 ∨ n = 5 ∨ n = 6 ∨ n = 7 ∨ n = 8 := by omega
  rcases this with h | h | h | h | h | h | h | h | h <;> subst h <;> unfold wrap64 <;> omega
theorem square_le (n : Nat) (hn : n ≤ 8) (m : Nat) (h : (m : Int) = ((n : Int) + 1) * ((n : Int) + 1)) : m ≤ 81 ∧ m = (n + 1) * (n + 1) := by
  have : n = 0 ∨ n = 1 ∨ n = 2 ∨ n = 3 ∨ n = 4 ∨ n = 5 ∨ n = 6 ∨ n = 7 ∨ n = 8 := by omega
  rcases this with h | h | h | h | h | h | h | h | h <;> subst h <;> omega
theorem div_lt_square {n m t : Nat} (hm : m = (n + 1) * (n + 1)) (ht : t < m) : t / (n + 1) < n + 1 := by
  rw [Nat.div_lt_iff_lt_mul (by omega)]; omega

set_option maxRecDepth 100000 in
set_option maxHeartbeats 1000000 in
theorem of_main (n : Nat) (A : Option Addr) (c : Nat) (cells : List Int) (w : World) (hn : n ≤ 8) (hm : (cells.length : Int) = ((n : Int) + 1) * ((n : Int) + 1))
    (hA : Elems w w.heap.size A (cells.map (Value.int .i32))) :
    Calls Try.prog 26 #[.int .i64 n, .slice A cells.length c] w fun e w' => ZRet w n (ofZ n cells) e w' ∧ New w w' := by
  have hfew : fewB n = true := by unfold fewB; simp; omega
  have hf := few_any n w
  rw [hfew] at hf
  have HF := Lib.hid hf
  obtain ⟨hm81, hsq⟩ := square_le n hn cells.length hm
  have h1 := square_wrap n hn
  have h2 : ((cells.length : Int) != ((n : Int) + 1) * ((n : Int) + 1)) = false := by simpa using hm
  have HM := Lib.hid hm
  have HSQ := Lib.hid hsq
  clear hf hm hsq
  have hop := open_any n w hn
  have HOP := Lib.hid hop
  clear hop
  go_enter Try.func26, Try.ntmps26
  go_wp2_with (first | (go_at_call 83; refine HF.out.mono ?_; rintro e w' ⟨rfl, rfl⟩) | (go_at_call 84; go_must (refine HOP.out.mono ?_; rintro e w1 ⟨rfl, hr1, hb1⟩)))
  have hA1 := hA.new hb1 (Nat.le_refl _)
  clear hA
  have hst0 : lpO (fun t L => if rightB (gt cells t) then some (keepL L (t / (n + 1)) (t % (n + 1)) (gt cells t)) else none) 0 (openL n) = some (openL n) := rfl
  go_loopw [26] (fun cn wr => ∃ (t : Nat) (L : List Int), t ≤ cells.length ∧ cn = .int .i64 t ∧ lpO (fun t L => if rightB (gt cells t) then some (keepL L (t / (n + 1)) (t % (n + 1)) (gt cells t)) else none) t (openL n) = some L ∧
      Row wr w.heap.size 218 (wideRow n L) ∧ Elems wr w.heap.size A (cells.map (Value.int .i32)) ∧ New w wr)
    (fun cn _ => cells.length - (intOf cn).toNat)
  case atStart => exact ⟨0, openL n, by omega, rfl, hst0, hr1, hA1, hb1⟩
  case round =>
    obtain ⟨t, L, ht, rfl, hL, hr, hA, hb⟩ := hrel
    clear hr1 hA1 hb1 hst0
    have hstart := ofL_start n hn cells t L hL
    by_cases hlt : t < cells.length
    · obtain ⟨g, off, rfl, hg, hc⟩ := hA.ints t hlt
      have hS : lpO (fun t L => if rightB (gt cells t) then some (keepL L (t / (n + 1)) (t % (n + 1)) (gt cells t)) else none) (t + 1) (openL n) =
          if rightB (gt cells t) then some (keepL L (t / (n + 1)) (t % (n + 1)) (gt cells t)) else none := by rw [lpO_succ, hL]; rfl
      have HS := Lib.hid hS
      have HL := Lib.hid hL
      have hri := fun w => right_any (gt cells t) w
      have HRI := Lib.hid hri
      have HH1 := Lib.hid h1
      have HH2 := Lib.hid h2
      clear hS hL hri h1 h2
      by_cases hR : rightB (gt cells t) = true
      · have hd0 : 0 ≤ (t : Int) / ((n : Int) + 1) := Int.ediv_nonneg (by omega) (by omega)
        have hdn : ((t : Int) / ((n : Int) + 1)).toNat = t / (n + 1) := by
          rw [show (n : Int) + 1 = ((n + 1 : Nat) : Int) by omega, ← Int.natCast_ediv, Int.toNat_natCast]
        have hmn : ((t : Int) % ((n : Int) + 1)).toNat = t % (n + 1) := by
          rw [show (n : Int) + 1 = ((n + 1 : Nat) : Int) by omega, ← Int.natCast_emod, Int.toNat_natCast]
        have hm0 : 0 ≤ (t : Int) % ((n : Int) + 1) := Int.emod_nonneg _ (by omega)
        have hm9 : (t : Int) % ((n : Int) + 1) < 9 := by have := Int.emod_lt_of_pos (t : Int) (show (0 : Int) < (n : Int) + 1 by omega); omega
        have hd9 : (t : Int) / ((n : Int) + 1) < 9 := by have := div_lt_square HSQ.out hlt; omega
        have HDN := Lib.hid hdn
        have HMN := Lib.hid hmn
        clear hdn hmn
        go_wp2_with (go_at_call 85; go_must (refine (HRI.out _).mono ?_; rintro e w' ⟨rfl, rfl⟩; rw [hR]))
        refine wp_region_still_tail 10 (by kernel_rfl) (by kernel_rfl) ?_
        simp only [List.take_succ_cons, List.take_zero, List.drop_succ_cons, List.drop_zero]
        refine still_of_quiet _ _ ?_
        repeat (first | go_big_quiet_skip | (go_big_quiet_want; go_big_quiet_op; go_big_quiet_on))
        refine wpQuiet_nil ?_
        go_wp2_with fail
        refine (keep_any w.heap.size n L _ _ (gt cells t) _ hstart.len hd0 hd9 hm0 hm9 hR hr.drew).mono ?_
        rintro e w2 ⟨rfl, hr2, hb2⟩
        have hnew : New w w2 := (New.drew hb).at_ hb2 (Nat.le_refl _)
        have hA2 : Elems w2 w.heap.size (some ⟨g, off, none⟩) (cells.map (Value.int .i32)) :=
          Elems.at_ (w := wr.drew) (g := w.heap.size) hA hb2 (by show w.heap.size ≤ wr.heap.size; exact hb.size) (Nat.le_refl _)
        rw [HDN.out, HMN.out] at hr2
        clear hA hr hb hb2
        go_wp2
        exact ⟨⟨t + 1, _, by omega, by go_num, by rw [HS.out, if_pos hR], hr2, hA2, hnew⟩, by simp [intOf]; omega⟩
      · have hRf : rightB (gt cells t) = false := by simpa using hR
        have hno : ofL n cells = none := lpO_none _ (t + 1) _ _ (by rw [HS.out, if_neg hR]) (by omega)
        have hz := ofZ_form hfew HM.out hno
        have HZ := Lib.hid hz
        clear hz hno hR
        go_wp2_with (go_at_call 85; go_must (refine (HRI.out _).mono ?_; rintro e w' ⟨rfl, rfl⟩; rw [hRf]))
        go_ret2
        rw [HZ.out]
        exact ⟨rfl, hb⟩
    · have : t = cells.length := by omega
      subst this
      have hz := ofZ_some hfew HM.out hL
      have HZ := Lib.hid hz
      clear hz h1 h2 hfew
      have hzone := zone_any w.heap.size n L wr hn hstart.len (hstart.safe hn) hr
      have HZO := Lib.hid hzone
      clear hzone hL
      go_wp2_with fail
      refine HZO.out.mono ?_
      rintro e w2 ⟨hz, hb2⟩
      have hnew : New w w2 := hb.at_ hb2 (Nat.le_refl _)
      cases hq : zoneOf n L with
      | err c =>
        rw [hq] at hz
        have HQ := Lib.hid (HZ.out.trans hq)
        clear hq HZ
        simp only [ZRet] at hz
        subst hz
        go_wp2
        go_ret2
        rw [HQ.out]
        exact ⟨rfl, hnew⟩
      | ok Z =>
        rw [hq] at hz
        have HQ := Lib.hid (HZ.out.trans hq)
        clear hq HZ
        obtain ⟨g, he, hg, hrow⟩ := hz
        subst he
        go_wp2
        go_ret2
        rw [HQ.out]
        exact ⟨⟨g, rfl, by have := hb.size; omega, hrow⟩, hnew⟩

/-- Of: the zone of bounds, row by row; or its error. -/
theorem of_any (n : Int) (A : Option Addr) (m c : Nat) (cells : List Int) (w : World) (hm : m = cells.length) (hA : Elems w w.heap.size A (cells.map (Value.int .i32))) :
    Calls Try.prog 26 #[.int .i64 n, .slice A m c] w fun e w' => ZRet w n (ofZ n cells) e w' ∧ New w w' := by
  subst hm
  by_cases h1 : fewB n = true
  · obtain ⟨h0, h8⟩ := fewB_true h1
    by_cases h2 : (cells.length : Int) = (n + 1) * (n + 1)
    · obtain ⟨k, rfl⟩ := Int.eq_ofNat_of_zero_le h0
      exact of_main k A c cells w (by omega) h2 hA
    · refine (of_long n A cells.length c w h1 h2).mono ?_
      rintro e w' ⟨rfl, rfl⟩
      rw [ofZ_long h1 h2]
      exact ⟨rfl, New.refl _⟩
  · have h1 : fewB n = false := by simpa using h1
    refine (of_few n A cells.length c w h1).mono ?_
    rintro e w' ⟨rfl, rfl⟩
    rw [ofZ_few h1]
    exact ⟨rfl, New.refl _⟩
end Go.Proofs.Ytapfihlgemejiaa
-- Walks over package dbm: Limits, Zero.
namespace Go.Proofs.Ytapfihlgemejiaa
open Go.RowKit

/-- The cells of a list of bounds. -/
def limRow (l : List Lim) : List Value := l.flatMap fun x => [.int .i64 x.i, .int .i64 x.j, .int .i32 x.b]
theorem limRow_length (l : List Lim) : (limRow l).length = 3 * l.length := by
  induction l with
  | nil => rfl
  | cons x l ih => simp only [limRow, List.flatMap_cons, List.length_append, List.length_cons, List.length_nil] at *; omega
theorem limRow_get (l : List Lim) (t : Nat) (h : t < l.length) :
    (limRow l)[3 * t]? = some (.int .i64 (l.getD t ⟨0, 0, 0⟩).i) ∧ (limRow l)[3 * t + 1]? = some (.int .i64 (l.getD t ⟨0, 0, 0⟩).j) ∧ (limRow l)[3 * t + 2]? = some (.int .i32 (l.getD t ⟨0, 0, 0⟩).b) := by
  induction l generalizing t with
  | nil => simp at h
  | cons x l ih =>
    have e : limRow (x :: l) = .int .i64 x.i :: .int .i64 x.j :: .int .i32 x.b :: limRow l := rfl
    rw [e]
    cases t with
    | zero => exact ⟨rfl, rfl, rfl⟩
    | succ t =>
      rw [show 3 * (t + 1) = 3 * t + 1 + 1 + 1 by omega, show 3 * t + 1 + 1 + 1 + 1 = 3 * t + 1 + 1 + 1 + 1 by rfl]
      simp only [List.getElem?_cons_succ, List.getD_cons_succ]
      have := ih t (by simpa using h)
      exact this
theorem Elems.lims {w : World} {B : Nat} {A : Option Addr} {l : List Lim} (h : Elems w B A (limRow l)) (t : Nat) (ht : t < l.length) :
    ∃ b off, A = some ⟨b, off, none⟩ ∧ b < B ∧ w.cell? ⟨b, off + t * 3, none⟩ = some (.int .i64 (l.getD t ⟨0, 0, 0⟩).i) ∧ w.cell? ⟨b, off + t * 3 + 1, none⟩ = some (.int .i64 (l.getD t ⟨0, 0, 0⟩).j) ∧
      w.cell? ⟨b, off + t * 3 + 2, none⟩ = some (.int .i32 (l.getD t ⟨0, 0, 0⟩).b) := by
  obtain ⟨b, off, e, hb, hc⟩ := h (by rw [limRow_length]; omega)
  obtain ⟨h1, h2, h3⟩ := limRow_get l t ht
  refine ⟨b, off, e, hb, ?_, ?_, ?_⟩
  · have := hc _ _ h1; rwa [Nat.mul_comm 3 t] at this
  · have := hc _ _ h2; rwa [Nat.mul_comm 3 t, ← Nat.add_assoc] at this
  · have := hc _ _ h3; rwa [Nat.mul_comm 3 t, ← Nat.add_assoc] at this

set_option maxRecDepth 100000 in
set_option maxHeartbeats 1000000 in
theorem limits_main (n : Nat) (A : Option Addr) (c : Nat) (l : List Lim) (w : World) (hn : n ≤ 8) (hl : l.length < 4611686018427387904)
    (hA : Elems w w.heap.size A (limRow l)) :
    Calls Try.prog 82 #[.int .i64 n, .slice A l.length c] w fun e w' => ZRet w n (limZ n l) e w' ∧ New w w' := by
  have hfew : fewB n = true := by unfold fewB; simp; omega
  have hf := few_any n w
  rw [hfew] at hf
  have HF := Lib.hid hf
  clear hf
  have hop := open_any n w hn
  have HOP := Lib.hid hop
  clear hop
  go_enter Try.func82, Try.ntmps82
  go_wp2_with (first | (go_at_call 83; refine HF.out.mono ?_; rintro e w' ⟨rfl, rfl⟩) | (go_at_call 84; go_must (refine HOP.out.mono ?_; rintro e w1 ⟨rfl, hr1, hb1⟩)))
  have hA1 := hA.new hb1 (Nat.le_refl _)
  clear hA
  have hst0 : lpO (fun t L => if limOk n (l.getD t ⟨0, 0, 0⟩) then some (keepL L (l.getD t ⟨0, 0, 0⟩).i.toNat (l.getD t ⟨0, 0, 0⟩).j.toNat (l.getD t ⟨0, 0, 0⟩).b) else none) 0 (openL n) = some (openL n) := rfl
  go_loopw [16] (fun cn wr => ∃ (t : Nat) (L : List Int), t ≤ l.length ∧ cn = .int .i64 t ∧ lpO (fun t L => if limOk n (l.getD t ⟨0, 0, 0⟩) then some (keepL L (l.getD t ⟨0, 0, 0⟩).i.toNat (l.getD t ⟨0, 0, 0⟩).j.toNat (l.getD t ⟨0, 0, 0⟩).b) else none) t (openL n) = some L ∧
      Row wr w.heap.size 218 (wideRow n L) ∧ Elems wr w.heap.size A (limRow l) ∧ New w wr)
    (fun cn _ => l.length - (intOf cn).toNat)
  case atStart => exact ⟨0, openL n, by omega, rfl, hst0, hr1, hA1, hb1⟩
  case round =>
    obtain ⟨t, L, ht, rfl, hL, hr, hA, hb⟩ := hrel
    clear hr1 hA1 hb1 hst0
    have hstart := limL_start n hn l t L hL
    by_cases hlt : t < l.length
    · obtain ⟨g, off, rfl, hg, hc1, hc2, hc3⟩ := hA.lims t hlt
      have hS : lpO (fun t L => if limOk n (l.getD t ⟨0, 0, 0⟩) then some (keepL L (l.getD t ⟨0, 0, 0⟩).i.toNat (l.getD t ⟨0, 0, 0⟩).j.toNat (l.getD t ⟨0, 0, 0⟩).b) else none) (t + 1) (openL n) =
          if limOk n (l.getD t ⟨0, 0, 0⟩) then some (keepL L (l.getD t ⟨0, 0, 0⟩).i.toNat (l.getD t ⟨0, 0, 0⟩).j.toNat (l.getD t ⟨0, 0, 0⟩).b) else none := by rw [lpO_succ, hL]; rfl
      have HS := Lib.hid hS
      have HL := Lib.hid hL
      clear hS hL
      generalize l.getD t ⟨0, 0, 0⟩ = x at *
      obtain ⟨xi, xj, xb⟩ := x
      simp only at hc1 hc2 hc3
      have hri := fun w => right_any xb w
      have HRI := Lib.hid hri
      clear hri
      by_cases ok : limOk n ⟨xi, xj, xb⟩ = true
      · have hk := ok
        simp only [limOk, Bool.and_eq_true, decide_eq_true_eq] at hk
        obtain ⟨⟨h1, h2, h3, h4⟩, hR⟩ := hk
        go_wp2_with (go_at_call 85; go_must (refine (HRI.out _).mono ?_; rintro e w' ⟨rfl, rfl⟩; rw [hR]))
        refine (keep_any w.heap.size n L xi xj xb _ hstart.len h1 (by omega) h3 (by omega) hR (hr.alloc _)).mono ?_
        rintro e w2 ⟨rfl, hr2, hb2⟩
        have hb1 : New w (wr.alloc (.cells #[.int .i64 xi, .int .i64 xj, .int .i32 xb] 100)) := New.alloc hb _
        have hnew : New w w2 := hb1.at_ hb2 (Nat.le_refl _)
        have hA1 : Elems (wr.alloc (.cells #[.int .i64 xi, .int .i64 xj, .int .i32 xb] 100)) w.heap.size (some ⟨g, off, none⟩) (limRow l) :=
          hA.new ((New.refl wr).alloc _) hb.size
        have hA2 : Elems w2 w.heap.size (some ⟨g, off, none⟩) (limRow l) := hA1.at_ hb2 hb1.size (Nat.le_refl _)
        clear hA hr hb hb2 hb1 hA1
        go_wp2
        exact ⟨⟨t + 1, _, by omega, by go_num, by rw [HS.out, if_pos ok], hr2, hA2, hnew⟩, by simp [intOf]; omega⟩
      · have hno : limL n l = none := lpO_none _ (t + 1) _ _ (by rw [Int.toNat_natCast, HS.out, if_neg ok]) (by omega)
        have hz : limZ n l = .err 7 := by unfold limZ; rw [if_neg (by rw [hfew]; decide), hno]
        have HZ := Lib.hid hz
        clear hz hno hfew
        by_cases k1 : xi < 0
        · clear ok
          go_wp2
          go_ret2
          rw [HZ.out]
          exact ⟨rfl, hb.alloc _⟩
        · by_cases k2 : (n : Int) < xi
          · clear ok
            have k1 : 0 ≤ xi := by omega
            go_wp2
            go_ret2
            rw [HZ.out]
            exact ⟨rfl, hb.alloc _⟩
          · have k1 : 0 ≤ xi := by omega
            have k2 : xi ≤ n := by omega
            by_cases k3 : xj < 0
            · clear ok
              go_wp2
              go_ret2
              rw [HZ.out]
              exact ⟨rfl, hb.alloc _⟩
            · by_cases k4 : (n : Int) < xj
              · clear ok
                have k3 : 0 ≤ xj := by omega
                go_wp2
                go_ret2
                rw [HZ.out]
                exact ⟨rfl, hb.alloc _⟩
              · have k3 : 0 ≤ xj := by omega
                have k4 : xj ≤ n := by omega
                have hR : rightB xb = false := by
                  cases hq : rightB xb with
                  | false => rfl
                  | true => exact absurd (by simp only [limOk, Bool.and_eq_true, decide_eq_true_eq]; exact ⟨⟨k1, k2, k3, k4⟩, hq⟩) ok
                clear ok
                go_wp2_with (go_at_call 85; go_must (refine (HRI.out _).mono ?_; rintro e w' ⟨rfl, rfl⟩; rw [hR]))
                go_ret2
                rw [HZ.out]
                exact ⟨rfl, hb.alloc _⟩
    · have : t = l.length := by omega
      subst this
      have hz : limZ n l = zoneOf n L := by
        unfold limZ; rw [if_neg (by rw [hfew]; decide)]
        have : limL n l = some L := by unfold limL; rw [Int.toNat_natCast]; exact hL
        rw [this, Int.toNat_natCast]
      have HZ := Lib.hid hz
      clear hz hfew hL
      have hzone := zone_any w.heap.size n L wr hn hstart.len (hstart.safe hn) hr
      have HZO := Lib.hid hzone
      clear hzone
      go_wp2_with fail
      refine HZO.out.mono ?_
      rintro e w2 ⟨hz, hb2⟩
      have hnew : New w w2 := hb.at_ hb2 (Nat.le_refl _)
      cases hq : zoneOf n L with
      | err c =>
        rw [hq] at hz
        have HQ := Lib.hid (HZ.out.trans hq)
        clear hq HZ
        simp only [ZRet] at hz
        subst hz
        go_wp2
        go_ret2
        rw [HQ.out]
        exact ⟨rfl, hnew⟩
      | ok Z =>
        rw [hq] at hz
        have HQ := Lib.hid (HZ.out.trans hq)
        clear hq HZ
        obtain ⟨g, he, hg, hrow⟩ := hz
        subst he
        go_wp2
        go_ret2
        rw [HQ.out]
        exact ⟨⟨g, rfl, by have := hb.size; omega, hrow⟩, hnew⟩

theorem limits_few (n : Int) (A : Option Addr) (m c : Nat) (w : World) (hn : fewB n = false) :
    Calls Try.prog 82 #[.int .i64 n, .slice A m c] w fun e w' => e = .returned (.tuple #[.pointer none, .int .i64 12]) ∧ w = w' := by
  have hf := few_any n w
  rw [hn] at hf
  have HF := Lib.hid hf
  clear hf hn
  go_enter Try.func82, Try.ntmps82
  go_wp2_with (go_at_call 83; refine HF.out.mono ?_; rintro e w' ⟨rfl, rfl⟩)
  go_ret2
  exact ⟨rfl, rfl⟩

/-- Limits: the zone of all that keep bounds; or its error. -/
theorem limits_any (n : Int) (A : Option Addr) (m c : Nat) (l : List Lim) (w : World) (hm : m = l.length) (hl : l.length < 4611686018427387904) (hA : Elems w w.heap.size A (limRow l)) :
    Calls Try.prog 82 #[.int .i64 n, .slice A m c] w fun e w' => ZRet w n (limZ n l) e w' ∧ New w w' := by
  subst hm
  by_cases h1 : fewB n = true
  · obtain ⟨h0, h8⟩ := fewB_true h1
    obtain ⟨k, rfl⟩ := Int.eq_ofNat_of_zero_le h0
    exact limits_main k A c l w (by omega) hl hA
  · have h1 : fewB n = false := by simpa using h1
    refine (limits_few n A l.length c w h1).mono ?_
    rintro e w' ⟨rfl, rfl⟩
    have : limZ n l = .err 12 := by unfold limZ; rw [if_pos h1]
    rw [this]
    exact ⟨rfl, New.refl _⟩

theorem zero_start (n : Nat) (hn : n ≤ 8) (m : Nat) : Start n (lp (fun i L => keepL L i 0 1) m (openL n)) :=
  lp_inv (Start n) _ _ _ (Start.open_ n hn) (fun _ _ _ h => h.keep _ _ _ (by decide))

set_option maxRecDepth 100000 in
set_option maxHeartbeats 1000000 in
theorem zero_main (n : Nat) (w : World) (hn : n ≤ 8) :
    Calls Try.prog 50 #[.int .i64 n] w fun e w' => ZRet w n (zeroZ n) e w' ∧ New w w' := by
  have hfew : fewB n = true := by unfold fewB; simp; omega
  have hf := few_any n w
  rw [hfew] at hf
  have HF := Lib.hid hf
  clear hf
  have hop := open_any n w hn
  have HOP := Lib.hid hop
  clear hop
  go_enter Try.func50, Try.ntmps50
  go_wp2_with (first | (go_at_call 83; refine HF.out.mono ?_; rintro e w' ⟨rfl, rfl⟩) | (go_at_call 84; go_must (refine HOP.out.mono ?_; rintro e w1 ⟨rfl, hr1, hb1⟩)))
  go_loopw [13] (fun cn wr => ∃ t : Nat, t ≤ n + 1 ∧ cn = .int .i64 t ∧ Row wr w.heap.size 218 (wideRow n (lp (fun i L => keepL L i 0 1) t (openL n))) ∧ New w wr)
    (fun cn _ => n + 1 - (intOf cn).toNat)
  case atStart => exact ⟨0, by omega, rfl, hr1, hb1⟩
  case round =>
    obtain ⟨t, ht, rfl, hr, hb⟩ := hrel
    clear hr1 hb1
    have hstart := zero_start n hn t
    have hS : lp (fun i L => keepL L i 0 1) (t + 1) (openL n) = keepL (lp (fun i L => keepL L i 0 1) t (openL n)) t 0 1 := rfl
    have HS := Lib.hid hS
    clear hS
    by_cases hlt : t < n + 1
    · generalize lp (fun i L => keepL L i 0 1) t (openL n) = L at *
      go_wp2_with fail
      refine (keep_any w.heap.size n L t 0 1 _ hstart.len (by omega) (by omega) (by omega) (by omega) (by decide) hr).mono ?_
      rintro e w2 ⟨rfl, hr2, hb2⟩
      have hnew : New w w2 := hb.at_ hb2 (Nat.le_refl _)
      rw [Int.toNat_natCast] at hr2
      clear hr hb hb2
      go_wp2
      exact ⟨⟨t + 1, by omega, by go_num, by rw [HS.out]; exact hr2, hnew⟩, by simp [intOf]; omega⟩
    · have : t = n + 1 := by omega
      subst this
      have hz : zeroZ n = zoneOf n (lp (fun i L => keepL L i 0 1) (n + 1) (openL n)) := by
        unfold zeroZ; rw [if_neg (by rw [hfew]; decide), Int.toNat_natCast]
      have HZ := Lib.hid hz
      clear hz hfew HS
      generalize lp (fun i L => keepL L i 0 1) (n + 1) (openL n) = L at *
      have hzone := zone_any w.heap.size n L wr hn hstart.len (hstart.safe hn) hr
      have HZO := Lib.hid hzone
      clear hzone
      go_wp2_with fail
      refine HZO.out.mono ?_
      rintro e w2 ⟨hz, hb2⟩
      have hnew : New w w2 := hb.at_ hb2 (Nat.le_refl _)
      cases hq : zoneOf n L with
      | err c =>
        rw [hq] at hz
        have HQ := Lib.hid (HZ.out.trans hq)
        clear hq HZ
        simp only [ZRet] at hz
        subst hz
        go_wp2
        go_ret2
        rw [HQ.out]
        exact ⟨rfl, hnew⟩
      | ok Z =>
        rw [hq] at hz
        have HQ := Lib.hid (HZ.out.trans hq)
        clear hq HZ
        obtain ⟨g, he, hg, hrow⟩ := hz
        subst he
        go_wp2
        go_ret2
        rw [HQ.out]
        exact ⟨⟨g, rfl, by have := hb.size; omega, hrow⟩, hnew⟩

theorem zero_few (n : Int) (w : World) (hn : fewB n = false) :
    Calls Try.prog 50 #[.int .i64 n] w fun e w' => e = .returned (.tuple #[.pointer none, .int .i64 12]) ∧ w = w' := by
  have hf := few_any n w
  rw [hn] at hf
  have HF := Lib.hid hf
  clear hf hn
  go_enter Try.func50, Try.ntmps50
  go_wp2_with (go_at_call 83; refine HF.out.mono ?_; rintro e w' ⟨rfl, rfl⟩)
  go_ret2
  exact ⟨rfl, rfl⟩
end Go.Proofs.Ytapfihlgemejiaa
