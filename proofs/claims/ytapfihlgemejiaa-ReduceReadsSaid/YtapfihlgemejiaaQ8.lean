/- Walks over gnomonref03 and gnomonref25 that read only: Dim, Empty, Cell, cell, plus, free. | gnomonref25.ordered: a class in the order of its chain. | gnomonref25.Classes. -/
import Derived.Test.YtapfihlgemejiaaQ4
import Derived.Test.YtapfihlgemejiaaQ9
-- Walks over gnomonref03 and gnomonref25 that read only: Dim, Empty, Cell, cell, plus, free.
namespace Go.Proofs.Ytapfihlgemejiaa
open Go.RowKit
/-- What a walk reads of a zone of the document's. -/
theorem RefAt.reads {w : World} {b : Nat} {z : Zn} (h : RefAt w b z) : ∃ a off c, w.cell? ⟨b, 0, none⟩ = some (.int .i64 z.n) ∧ w.cell? ⟨b, 1, none⟩ = some (.slice (some ⟨a, off, none⟩) ((z.n + 1) * (z.n + 1)) c) ∧
    ∀ i j, i ≤ z.n → j ≤ z.n → w.cell? ⟨a, off + (i * (z.n + 1) + j), none⟩ = some (.int .i32 (gt z.Z (9 * i + j))) := by
  obtain ⟨A, c, h1, h2⟩ := h.row
  have hl : 0 < (ints32 (cellsOf z)).length := by rw [ints32_length, cellsOf_length]; exact Nat.mul_pos (Nat.succ_pos _) (Nat.succ_pos _)
  obtain ⟨a, off, rfl, _, hc⟩ := h2 hl
  refine ⟨a, off, c, h1.cell 0, h1.cell 1, fun i j hi hj => hc _ _ ?_⟩
  unfold ints32
  rw [List.getElem?_map, cellsOf_get z hi hj]; rfl
set_option maxHeartbeats 400000 in
theorem rdim_any (b : Nat) (z : Zn) (w : World) (h : RefAt w b z) :
    Calls Try.prog 152 #[.pointer (some ⟨b, 0, none⟩)] w fun e w' => e = .returned (.int .i64 z.n) ∧ w = w' := by
  obtain ⟨a, off, c, c0, _, _⟩ := h.reads
  clear h
  go_enter Try.func152, Try.ntmps152
  go_wp2
  go_ret
  exact ⟨rfl, rfl⟩
set_option maxHeartbeats 400000 in
theorem rdim_nil (w : World) : Calls Try.prog 152 #[.pointer none] w fun e w' => e = .returned (.int .i64 0) ∧ w = w' := by
  go_enter Try.func152, Try.ntmps152
  go_wp2
  go_ret
  exact ⟨rfl, rfl⟩
set_option maxHeartbeats 400000 in
theorem rempty_nil (w : World) : Calls Try.prog 146 #[.pointer none] w fun e w' => e = .returned (.bool false) ∧ w = w' := by
  go_enter Try.func146, Try.ntmps146
  go_wp2
  go_ret
  exact ⟨rfl, rfl⟩
theorem ZGood.le1 {z : Zn} (h : ZGood z) : gt z.Z 0 ≤ 1 := by
  rcases h.2 with e | e
  · rw [e]; decide
  · have := e.diag 0 (Nat.zero_le _)
    have : gt z.Z 0 = 1 := this
    omega
set_option maxHeartbeats 400000 in
theorem rempty_any (b : Nat) (z : Zn) (w : World) (h : RefAt w b z) (hz : gt z.Z 0 ≤ 1) :
    Calls Try.prog 146 #[.pointer (some ⟨b, 0, none⟩)] w fun e w' => e = .returned (.bool (emptyB z.Z)) ∧ w = w' := by
  obtain ⟨a, off, c, _, c1, hc⟩ := h.reads
  have c2 := hc 0 0 (Nat.zero_le _) (Nat.zero_le _)
  simp only [Nat.zero_mul, Nat.add_zero, Nat.mul_zero] at c2
  have hm : 0 < (z.n + 1) * (z.n + 1) := Nat.mul_pos (Nat.succ_pos _) (Nat.succ_pos _)
  have he : emptyB z.Z = !(gt z.Z 0 == 1) := by
    unfold emptyB
    by_cases e : gt z.Z 0 = 1
    · rw [e]; rfl
    · rw [decide_eq_true (by omega)]; simp [e]
  rw [he]
  clear h hc he hz
  generalize (z.n + 1) * (z.n + 1) = m at *
  generalize gt z.Z 0 = x at *
  go_enter Try.func146, Try.ntmps146
  go_wp2
  go_ret
  exact ⟨rfl, rfl⟩
set_option maxHeartbeats 1000000 in
theorem rcell_any (b : Nat) (z : Zn) (i j : Nat) (w : World) (h : RefAt w b z) (hi : i ≤ z.n) (hj : j ≤ z.n) :
    Calls Try.prog 182 #[.pointer (some ⟨b, 0, none⟩), .int .i64 i, .int .i64 j] w fun e w' => e = .returned (.tuple #[.int .i32 (gt z.Z (9 * i + j)), .int .i64 0]) ∧ Drew w w' := by
  obtain ⟨a, off, c, c0, c1, hc⟩ := h.reads
  have hd := h.dim
  have c2 := hc i j hi hj
  have si := sq_le (a := i) (n := z.n) (by omega) hd
  have l1 := at_lt hi hj
  obtain ⟨m, hm⟩ : ∃ m, (z.n + 1) * (z.n + 1) = m := ⟨_, rfl⟩
  obtain ⟨r, hr⟩ : ∃ r, i * (z.n + 1) = r := ⟨_, rfl⟩
  have hm81 : m ≤ 81 := by
    have h1 : (z.n + 1) * (z.n + 1) ≤ 9 * 9 := Nat.mul_le_mul (by omega) (by omega)
    omega
  rw [hm] at c1 l1
  rw [hr] at c2 si l1
  have ei : (i : Int) * ((z.n : Int) + 1) = (r : Int) := by rw [← hr]; push_cast; rfl
  have w1 : IntKind.i64.wrap ((z.n : Int) + 1) = (z.n : Int) + 1 := by rw [IntKind.wrap_i64]; omega
  have w2 : IntKind.i64.wrap ((i : Int) * ((z.n : Int) + 1)) = (r : Int) := by rw [ei, IntKind.wrap_i64]; omega
  have w3 : IntKind.i64.wrap ((r : Int) + (j : Int)) = (r : Int) + (j : Int) := by rw [IntKind.wrap_i64]; omega
  have d1 : (r : Int) + (j : Int) < (m : Int) := by omega
  have d2 : (0 : Int) ≤ (r : Int) + (j : Int) := by omega
  have t1 : ((r : Int) + (j : Int)).toNat = r + j := by omega
  have hiz : (i : Int) ≤ (z.n : Int) := by omega
  have hjz : (j : Int) ≤ (z.n : Int) := by omega
  clear h hc hm hr ei hm81
  generalize gt z.Z (9 * i + j) = x at *
  go_enter Try.func182, Try.ntmps182
  go_wp2_with fail
  go_quiet (fail)
  go_wp2_with fail
  go_ret2
  exact ⟨rfl, _, rfl⟩
set_option maxHeartbeats 400000 in
theorem rcel_any (b : Nat) (z : Zn) (i j : Nat) (w : World) (h : RefAt w b z) (hi : i ≤ z.n) (hj : j ≤ z.n) :
    Calls Try.prog 148 #[.pointer (some ⟨b, 0, none⟩), .int .i64 i, .int .i64 j] w fun e w' => e = .returned (.int .i32 (gt z.Z (9 * i + j))) ∧ Drew w w' := by
  have H := Lib.hid (rcell_any b z i j w h hi hj)
  generalize gt z.Z (9 * i + j) = x at *
  clear h hi hj
  go_enter Try.func148, Try.ntmps148
  go_wp2_with fail
  refine H.out.mono ?_
  rintro e w' ⟨rfl, hd⟩
  go_wp2_with fail
  go_ret
  exact ⟨rfl, hd⟩
set_option maxRecDepth 100000 in
set_option maxHeartbeats 1000000 in
theorem rplus25_any (a b : Int) (w : World) (ha : a = INF ∨ Fin32 a) (hb : b = INF ∨ Fin32 b) :
    Calls Try.prog 150 #[.int .i32 a, .int .i32 b] w fun e w' => e = .returned (.int .i64 (plus25 a b)) ∧ w = w' := by
  by_cases h1 : a = INF
  · have hq : plus25 a b = 1099511627776 := by unfold plus25; rw [if_pos (.inl h1)]
    rw [hq]
    clear hq ha hb
    have h1 : a = 2147483647 := h1
    subst h1
    go_enter Try.func150, Try.ntmps150
    go_wp2
    go_ret
    exact ⟨rfl, rfl⟩
  · have h3 : (a == 2147483647) = false := by unfold INF at h1; simpa using h1
    by_cases h2 : b = INF
    · have hq : plus25 a b = 1099511627776 := by unfold plus25; rw [if_pos (.inr h2)]
      rw [hq]
      clear hq ha hb
      rw [h2]
      unfold INF
      clear h1 h2
      go_enter Try.func150, Try.ntmps150
      go_wp2
      go_ret
      exact ⟨rfl, rfl⟩
    · have h4 : (b == 2147483647) = false := by unfold INF at h2; simpa using h2
      obtain ⟨a1, a2⟩ := ha.resolve_left h1
      obtain ⟨b1, b2⟩ := hb.resolve_left h2
      have hq : plus25 a b = if a % 2 = 1 ∨ b % 2 = 1 then a + b - 1 else a + b := by unfold plus25; rw [if_neg (by rintro (h | h); exact h1 h; exact h2 h), plus2_form]
      rw [hq]
      have v1 : IntKind.i64.wrap a = a := by rw [IntKind.wrap_i64]; omega
      have v2 : IntKind.i64.wrap b = b := by rw [IntKind.wrap_i64]; omega
      have w1 : IntKind.i64.wrap (a + b) = a + b := by rw [IntKind.wrap_i64]; omega
      have w2 : IntKind.i64.wrap (a + b - 1) = a + b - 1 := by rw [IntKind.wrap_i64]; omega
      clear hq ha hb h1 h2
      have fr : ∀ x : Int, Int.tmod x 2 = 0 ∨ Int.tmod x 2 = 1 ∨ Int.tmod x 2 = -1 → IntKind.i32.wrap (Int.tmod x 2) = Int.tmod x 2 := fun x hx => by
        rcases hx with h | h | h <;> rw [h] <;> rfl
      have fa := fr a (by rcases rtmod2 a with ⟨_, h⟩ | ⟨_, h⟩ <;> omega)
      have fb := fr b (by rcases rtmod2 b with ⟨_, h⟩ | ⟨_, h⟩ <;> omega)
      rcases rtmod2 a with ⟨p, q⟩ | ⟨p, q⟩
      · rw [q] at fa
        rcases rtmod2 b with ⟨p', q'⟩ | ⟨p', q'⟩
        · rw [if_neg (by omega)]
          rw [q'] at fb
          clear p p'
          go_enter Try.func150, Try.ntmps150
          go_wp2
          go_ret
          exact ⟨rfl, rfl⟩
        · rw [if_pos (by omega)]
          clear p p'
          rcases q' with q' | q' <;> rw [q'] at fb
          · go_enter Try.func150, Try.ntmps150
            go_wp2
            go_ret
            exact ⟨rfl, rfl⟩
          · go_enter Try.func150, Try.ntmps150
            go_wp2
            go_ret
            exact ⟨rfl, rfl⟩
      · rw [if_pos (by omega)]
        clear p
        rcases q with q | q <;> rw [q] at fa
        · go_enter Try.func150, Try.ntmps150
          go_wp2
          go_ret
          exact ⟨rfl, rfl⟩
        · go_enter Try.func150, Try.ntmps150
          go_wp2
          go_ret
          exact ⟨rfl, rfl⟩
set_option maxHeartbeats 1000000 in
theorem rfree_any (b : Nat) (z : Zn) (A : Option Addr) (cap : Nat) (d : List Nat) (w : World) (h : RefAt w b z) (hA : Elems w w.heap.size A (nats d)) (h9 : d.length ≤ 9) (hle : ∀ k, d.getD k 0 ≤ z.n) :
    Calls Try.prog 149 #[.pointer (some ⟨b, 0, none⟩), .slice A d.length cap] w fun e w' => e = .returned (.bool (d.any fun a => decide (cellN z.Z 0 a = 1))) ∧ New w w' := by
  rw [← any_range_getD d 0 (fun a => decide (cellN z.Z 0 a = 1))]
  have CE := Lib.hid (fun W (hn : New w W) j (hj : j ≤ z.n) => rcel_any b z 0 j W (h.new hn) (Nat.zero_le _) hj)
  have HA := Lib.hid hA
  have HLE := Lib.hid hle
  obtain ⟨m, hm⟩ : ∃ m, d.length = m := ⟨_, rfl⟩
  rw [hm] at h9 ⊢
  obtain ⟨v, hv⟩ : ∃ v, (List.range m).any (fun k => decide (cellN z.Z 0 (d.getD k 0) = 1)) = v := ⟨_, rfl⟩
  rw [hv]
  have HV := Lib.hid hv
  have HM := Lib.hid hm
  clear h hA hle hm hv
  go_enter Try.func149, Try.ntmps149
  go_wp2_with fail
  go_loopw [5] (fun vi wr => ∃ k : Nat, k ≤ m ∧ vi = .int .i64 k ∧ Hid (∀ t, t < k → decide (cellN z.Z 0 (d.getD t 0) = 1) = false) ∧ New w wr) (fun vi _ => m - (intOf vi).toNat)
  case atStart => exact ⟨0, Nat.zero_le _, rfl, fun t ht => absurd ht (Nat.not_lt_zero _), New.refl w⟩
  case round =>
    obtain ⟨k, hk, rfl, HB, hnw⟩ := hrel
    by_cases hlt : k < m
    · have hltz : (k : Int) < m := by omega
      have hkd : k < d.length := by rw [HM.out]; exact hlt
      have hEl := (HA.out.new hnw (Nat.le_refl _))
      obtain ⟨a, off, hAe, _, hc⟩ := hEl (by rw [nats_length, HM.out]; omega)
      subst hAe
      have c0 := hc k _ (nats_get d k hkd)
      have HC := Lib.hid (CE.out wr hnw _ (HLE.out k))
      rw [Nat.mul_zero, Nat.zero_add] at HC
      obtain ⟨y, hy⟩ : ∃ y, d.getD k 0 = y := ⟨_, rfl⟩
      rw [hy] at c0 HC
      obtain ⟨x, hx⟩ : ∃ x, gt z.Z y = x := ⟨_, rfl⟩
      have hx2 : cellN z.Z 0 (d.getD k 0) = x := by rw [hy, ← hx]; unfold cellN; rw [Nat.mul_zero, Nat.zero_add]
      rw [hx] at HC
      have HX := Lib.hid hx2
      clear hc hEl hx hx2 hy
      go_wp2_with fail
      refine HC.out.mono ?_
      rintro e w1 ⟨rfl, hd1⟩
      have HN1 := Lib.hid (hnw.trans hd1.new)
      clear HC hd1
      by_cases hx1 : x = 1
      · subst hx1
        go_wp2_with fail
        go_ret
        exact ⟨by rw [← HV.out, any_range_true hlt (by rw [HX.out]; rfl)]; rfl, HN1.out⟩
      · have hxb : (x == 1) = false := by simpa using hx1
        go_wp2_with fail
        refine ⟨⟨k + 1, by omega, by go_num, fun t ht => ?_, HN1.out⟩, by simp [intOf] <;> omega⟩
        by_cases e : t = k
        · subst e; rw [HX.out]; exact decide_eq_false hx1
        · exact HB.out t (by omega)
    · have hltz : ¬ (k : Int) < m := by omega
      have HNO := Lib.hid (any_range_false (n := m) (fun t ht => HB.out t (by omega)))
      go_wp2_with fail
      go_ret
      exact ⟨by rw [← HV.out, HNO.out]; rfl, hnw⟩
end Go.Proofs.Ytapfihlgemejiaa
-- gnomonref25.ordered: a class in the order of its chain.
namespace Go.Proofs.Ytapfihlgemejiaa
open Go.RowKit
def selB (Z : List Int) (k x : Nat) : Bool := if k = 0 then zeroB Z x else !zeroB Z x
def ordK (Z : List Int) (t : List Nat) : Nat → List Nat
  | 0 => [0]
  | k + 1 => ordK Z t k ++ t.filter (selB Z k)
theorem ordK_two (Z : List Int) (c : List Nat) (h : hd c = 0) : ordK Z c.tail 2 = orderedL Z c := by
  unfold orderedL
  rw [if_pos h]
  rfl
theorem filter_two (p : Nat → Bool) : ∀ t : List Nat, (t.filter p).length + (t.filter fun x => !p x).length = t.length
  | [] => rfl
  | a :: t => by
    have ih := filter_two p t
    cases h : p a <;> simp [h] <;> omega
theorem orderedL_length (Z : List Int) (c : List Nat) (h0 : 0 < c.length) : (orderedL Z c).length = c.length := by
  unfold orderedL
  split
  · have := filter_two (fun x => zeroB Z x) c.tail
    rw [List.length_append, List.length_append]
    rw [List.length_tail] at this
    show 1 + _ + _ = _
    omega
  · rfl
theorem ordK_small (Z : List Int) (t : List Nat) : ∀ k, (ordK Z t k).length ≤ 1 + k * t.length
  | 0 => by simp [ordK]
  | k + 1 => by
    have ih := ordK_small Z t k
    have h2 : (t.filter (selB Z k)).length ≤ t.length := List.length_filter_le _ _
    unfold ordK
    rw [List.length_append, Nat.succ_mul]
    omega
theorem take_filter_succ (p : Nat → Bool) {t : List Nat} {j : Nat} (hj : j < t.length) : (t.take (j + 1)).filter p = (t.take j).filter p ++ if p (t.getD j 0) = true then [t.getD j 0] else [] := by
  rw [List.take_succ_eq_append_getElem hj, List.filter_append, List.getD_eq_getElem?_getD, List.getElem?_eq_getElem hj]
  simp [List.filter_cons]
theorem nats_app (l m : List Nat) : nats (l ++ m) = nats l ++ nats m := by simp [nats]
set_option maxRecDepth 100000 in
set_option maxHeartbeats 8000000 in
theorem rordered_any (b : Nat) (z : Zn) (A : Option Addr) (cap : Nat) (c : List Nat) (w : World) (base : Nat) (h : RefAt w b z) (hO : w.ownsRow base 3 1 (.slice A c.length cap) c.length (nats c)) (hbs : base ≤ w.heap.size) (h0 : 0 < c.length) (h9 : c.length ≤ 9) (hle : ∀ k, c.getD k 0 ≤ z.n) :
    Calls Try.prog 147 #[.pointer (some ⟨b, 0, none⟩), .slice A c.length cap] w fun e w' => ∃ A' c', e = .returned (.slice A' c.length c') ∧ w'.ownsRow base 3 1 (.slice A' c.length c') c.length (nats (orderedL z.Z c)) ∧ New w w' := by
  have hA := elems_of_own hO
  have HOW := Lib.hid hO
  clear hO
  obtain ⟨i0, hi0, hz0, hz1, hz2⟩ := info_parts infoOf3
  obtain ⟨a, off, hAe, _, hc⟩ := hA (by rw [nats_length]; exact h0)
  subst hAe
  have CE := Lib.hid (fun W (hn : New w W) j (hj : j ≤ z.n) => rcel_any b z 0 j W (h.new hn) (Nat.zero_le _) hj)
  have CE2 := Lib.hid (fun W (hn : New w W) j (hj : j ≤ z.n) => rcel_any b z j 0 W (h.new hn) hj (Nat.zero_le _))
  have c0 := hc 0 _ (nats_get c 0 h0)
  rw [Nat.add_zero] at c0
  have HA := Lib.hid hA
  have HLE := Lib.hid hle
  have HL := Lib.hid (orderedL_length z.Z c h0)
  have HH0 := Lib.hid h0
  clear h hA hle hc
  by_cases hz : hd c = 0
  · have hz2' : c.getD 0 0 = 0 := hz
    rw [hz2'] at c0
    have HZ := Lib.hid hz
    obtain ⟨t, ht⟩ : ∃ t, c.tail = t := ⟨_, rfl⟩
    obtain ⟨m, hm⟩ : ∃ m, t.length = m := ⟨_, rfl⟩
    have hcl : c.length = m + 1 := by rw [← hm, ← ht, List.length_tail]; omega
    have hget : ∀ j, c.getD (j + 1) 0 = t.getD j 0 := fun j => by
      cases c with
      | nil => cases h0
      | cons x y => have ht : y = t := ht; subst ht; rfl
    have HT := Lib.hid ht
    have HM := Lib.hid hm
    have HGET := Lib.hid hget
    have HCL := Lib.hid hcl
    rw [hcl] at h9 ⊢
    have hm8 : m ≤ 8 := by omega
    clear hz hz2' ht hm hget hcl h0 h9
    go_enter Try.func147, Try.ntmps147
    go_wp2_with fail
    have hs0 : (w.alloc (.cells #[.int .i64 0] 3)).ownsRow w.heap.size 3 1 (.slice (some ⟨w.heap.size, 0, none⟩) 1 1) 1 (nats (ordK z.Z t 0)) :=
      ⟨rfl, .inr ⟨w.heap.size, 1, #[.int .i64 0], rfl, Nat.le_refl _, heap_alloc_new w _, by decide, by decide, rfl, rfl⟩⟩
    have HS0 := Lib.hid hs0
    clear hs0
    go_loopw [5, 6] (fun v ck wr => ∃ k : Nat, k ≤ 2 ∧ ck = .int .i64 k ∧ Hid (wr.ownsRow w.heap.size 3 1 v (ordK z.Z t k).length (nats (ordK z.Z t k))) ∧ Hid (New w wr))
      (fun _ ck _ => 2 - (intOf ck).toNat)
    case atStart => exact ⟨0, by omega, by go_num, HS0, (New.refl w).alloc _⟩
    case round =>
      obtain ⟨k, hk, rfl, HO, HN⟩ := hrel
      by_cases hk2 : k < 2
      · have hkz : (k : Int) < 2 := by omega
        go_wp2_with fail
        obtain ⟨wo, rfl⟩ : ∃ wo : World, wo = wr := ⟨_, rfl⟩
        go_loopw [5, 7] (fun v ci wr => ∃ j : Nat, j ≤ m ∧ ci = .int .i64 ((j + 1 : Nat) : Int) ∧ Hid (wr.ownsRow w.heap.size 3 1 v (ordK z.Z t k ++ (t.take j).filter (selB z.Z k)).length (nats (ordK z.Z t k ++ (t.take j).filter (selB z.Z k)))) ∧ Hid (New w wr))
          (fun _ ci _ => m + 1 - (intOf ci).toNat)
        case atStart => exact ⟨0, Nat.zero_le _, by go_num, (by show World.ownsRow _ _ _ _ _ _ _; rw [List.take_zero, List.filter_nil, List.append_nil]; exact HO.out), HN.out⟩
        case round =>
          obtain ⟨j, hj, rfl, HO2, HN2⟩ := hrel
          by_cases hjm : j < m
          · have hjz : ((j + 1 : Nat) : Int) < ((m + 1 : Nat) : Int) := by omega
            have hjt : j < t.length := by rw [HM.out]; exact hjm
            obtain ⟨a', off', hA', _, hc⟩ := (HA.out.new HN2.out (Nat.le_refl _)) (by rw [nats_length]; exact HH0.out)
            obtain ⟨rfl, rfl⟩ : a = a' ∧ off = off' := by simpa using hA'
            have cj := hc (j + 1) _ (nats_get c (j + 1) (by rw [HCL.out]; omega))
            have hx := HLE.out (j + 1)
            rw [HGET.out] at cj hx
            have hsu := take_filter_succ (selB z.Z k) hjt
            obtain ⟨x, hxe⟩ : ∃ x, t.getD j 0 = x := ⟨_, rfl⟩
            rw [hxe] at cj hx hsu
            have C1 := Lib.hid (fun W (hn : New w W) => CE.out W hn x hx)
            have C2 := Lib.hid (fun W (hn : New w W) => CE2.out W hn x hx)
            rw [Nat.mul_zero, Nat.zero_add] at C1
            rw [Nat.add_zero] at C2
            obtain ⟨p, hp⟩ : ∃ p, gt z.Z x = p := ⟨_, rfl⟩
            obtain ⟨q, hq⟩ : ∃ q, gt z.Z (9 * x) = q := ⟨_, rfl⟩
            have hzb : zeroB z.Z x = (decide (p = 1) && decide (q = 1)) := by
              unfold zeroB cellN
              rw [Nat.mul_zero, Nat.zero_add, Nat.add_zero, hp, hq]
            rw [hp] at C1
            rw [hq] at C2
            have HSU := Lib.hid hsu
            have HZB := Lib.hid hzb
            have EL := Lib.hid (fun W (hn : New w W) => (HA.out.new hn (Nat.le_refl _)))
            have CJ := Lib.hid (fun W (hn : New w W) => (show W.cell? ⟨a, off + (j + 1), none⟩ = some (.int .i64 x) from by
              obtain ⟨a', off', hA', _, hc⟩ := (HA.out.new hn (Nat.le_refl _)) (by rw [nats_length]; exact HH0.out)
              obtain ⟨rfl, rfl⟩ : a = a' ∧ off = off' := by simpa using hA'
              have cj := hc (j + 1) _ (nats_get c (j + 1) (by rw [HCL.out]; omega))
              rw [HGET.out, hxe] at cj
              exact cj))
            have hsm : (ordK z.Z t k ++ (t.take j).filter (selB z.Z k)).length ≤ 40 := by
              have h1 := ordK_small z.Z t k
              have h2 := List.length_filter_le (selB z.Z k) (t.take j)
              rw [List.length_take] at h2
              rw [List.length_append]
              have h3 : k * t.length ≤ 2 * 8 := Nat.mul_le_mul (by omega) (by have := HM.out; omega)
              have := HM.out
              omega
            obtain ⟨S, hS⟩ : ∃ S, ordK z.Z t k ++ (t.take j).filter (selB z.Z k) = S := ⟨_, rfl⟩
            rw [hS] at HO2 hsm
            have HS := Lib.hid hS
            clear hc hA' hsu hzb hxe hp hq hS EL
            by_cases hk0 : k = 0
            · have hkb : ((k : Int) == 0) = true := by rw [hk0]; rfl
              have HK0 := Lib.hid hk0
              clear hk0
              by_cases hp1 : p = 1
              · by_cases hq1 : q = 1
                · subst hp1
                  subst hq1
                  go_wp2_with fail
                  refine (C1.out _ HN2.out).mono ?_
                  rintro e w8 ⟨rfl, hd8⟩
                  have HN8 := Lib.hid (HN2.out.trans hd8.new)
                  have HNX8 := Lib.hid hd8.new
                  clear hd8
                  have cj8 := CJ.out _ HN8.out
                  go_wp2_with fail
                  refine (C2.out _ HN8.out).mono ?_
                  rintro e w9 ⟨rfl, hd9⟩
                  have HN9 := Lib.hid (HN8.out.trans hd9.new)
                  have HNX := Lib.hid (HNX8.out.trans hd9.new)
                  clear hd9 cj8
                  have cj9 := CJ.out _ HN9.out
                  have HOX := Lib.hid (own_new HO2.out HNX.out)
                  have hN5 := (New.refl w9).alloc (.cells #[.int .i64 (x : Int)] 3)
                  have HOWN := Lib.hid (own_new HOX.out hN5)
                  have HEL := Lib.hid (elems_new w9 3 (.int .i64 (x : Int)))
                  have HSZ := Lib.hid (Nat.le_trans HN9.out.size hN5.size)
                  have HN5 := Lib.hid hN5
                  clear hN5
                  go_wp2_with (at_builtin; (refine wpList_append_elems rfl _ _ 25 rfl w.heap.size 3 i0 (.int .i64 0) 1 8 Try.underlying25 hi0 hz0 hz1 hz2 rfl (by decide) _ S.length _ (by rfl) HOWN.out _ _ 1 1 _ (by rfl) HEL.out rfl ?c1 ?c2 ?c3 HSZ.out ?_))
                  case c1 => intro y hy; simp at hy; subst hy; rfl
                  case c2 => unfold maxLen; omega
                  case c3 => omega
                  intro v' w' ho' hg' hb'
                  have hF := Fr.of_grown (S := fun k => Value.ownBlock _ = some k) hg' (fun k hk _ => hk)
                  have hN3 : New w w' := Fr.then (HN9.out.trans HN5.out) hF (fun _ _ e => e) (fun k hk e => by
                    have h1 := (own_row HOWN.out e).1
                    omega)
                  have HO' := Lib.hid ho'
                  clear ho' hg' hb' hF
                  go_wp2_with fail
                  refine ⟨⟨j + 1, by omega, by go_num, ?_, hN3⟩, by simp [intOf] <;> omega⟩
                  have hyes : selB z.Z k x = true := by unfold selB; rw [if_pos HK0.out, HZB.out]; simp [*]
                  show World.ownsRow _ _ _ _ _ _ _
                  rw [HSU.out, hyes, if_pos rfl, ← List.append_assoc, HS.out, nats_app, List.length_append]
                  exact HO'.out
                · have hqb : (q == 1) = false := by simpa using hq1
                  subst hp1
                  go_wp2_with fail
                  refine (C1.out _ HN2.out).mono ?_
                  rintro e w8 ⟨rfl, hd8⟩
                  have HN8 := Lib.hid (HN2.out.trans hd8.new)
                  have HNX8 := Lib.hid hd8.new
                  clear hd8
                  have cj8 := CJ.out _ HN8.out
                  go_wp2_with fail
                  refine (C2.out _ HN8.out).mono ?_
                  rintro e w9 ⟨rfl, hd9⟩
                  have HN9 := Lib.hid (HN8.out.trans hd9.new)
                  have HNX := Lib.hid (HNX8.out.trans hd9.new)
                  clear hd9 cj8
                  go_wp2_with fail
                  refine ⟨⟨j + 1, by omega, by go_num, ?_, HN9.out⟩, by simp [intOf] <;> omega⟩
                  have hno : selB z.Z k x = false := by unfold selB; rw [if_pos HK0.out, HZB.out]; simp [*]
                  show World.ownsRow _ _ _ _ _ _ _
                  rw [HSU.out, hno, if_neg (by decide), List.append_nil, HS.out]
                  exact own_new HO2.out (HNX.out)
              · have hpb : (p == 1) = false := by simpa using hp1
                go_wp2_with fail
                refine (C1.out _ HN2.out).mono ?_
                rintro e w9 ⟨rfl, hd9⟩
                have HN9 := Lib.hid (HN2.out.trans hd9.new)
                have HNX := Lib.hid hd9.new
                clear hd9
                go_wp2_with fail
                refine ⟨⟨j + 1, by omega, by go_num, ?_, HN9.out⟩, by simp [intOf] <;> omega⟩
                have hno : selB z.Z k x = false := by unfold selB; rw [if_pos HK0.out, HZB.out]; simp [*]
                show World.ownsRow _ _ _ _ _ _ _
                rw [HSU.out, hno, if_neg (by decide), List.append_nil, HS.out]
                exact own_new HO2.out (HNX.out)
            · have hkb : ((k : Int) == 0) = false := by simp; omega
              have HK0 := Lib.hid hk0
              clear hk0
              by_cases hp1 : p = 1
              · by_cases hq1 : q = 1
                · subst hp1
                  subst hq1
                  go_wp2_with fail
                  refine (C1.out _ HN2.out).mono ?_
                  rintro e w8 ⟨rfl, hd8⟩
                  have HN8 := Lib.hid (HN2.out.trans hd8.new)
                  have HNX8 := Lib.hid hd8.new
                  clear hd8
                  have cj8 := CJ.out _ HN8.out
                  go_wp2_with fail
                  refine (C2.out _ HN8.out).mono ?_
                  rintro e w9 ⟨rfl, hd9⟩
                  have HN9 := Lib.hid (HN8.out.trans hd9.new)
                  have HNX := Lib.hid (HNX8.out.trans hd9.new)
                  clear hd9 cj8
                  go_wp2_with fail
                  refine ⟨⟨j + 1, by omega, by go_num, ?_, HN9.out⟩, by simp [intOf] <;> omega⟩
                  have hno : selB z.Z k x = false := by unfold selB; rw [if_neg HK0.out, HZB.out]; simp [*]
                  show World.ownsRow _ _ _ _ _ _ _
                  rw [HSU.out, hno, if_neg (by decide), List.append_nil, HS.out]
                  exact own_new HO2.out (HNX.out)
                · have hqb : (q == 1) = false := by simpa using hq1
                  subst hp1
                  go_wp2_with fail
                  refine (C1.out _ HN2.out).mono ?_
                  rintro e w8 ⟨rfl, hd8⟩
                  have HN8 := Lib.hid (HN2.out.trans hd8.new)
                  have HNX8 := Lib.hid hd8.new
                  clear hd8
                  have cj8 := CJ.out _ HN8.out
                  go_wp2_with fail
                  refine (C2.out _ HN8.out).mono ?_
                  rintro e w9 ⟨rfl, hd9⟩
                  have HN9 := Lib.hid (HN8.out.trans hd9.new)
                  have HNX := Lib.hid (HNX8.out.trans hd9.new)
                  clear hd9 cj8
                  have cj9 := CJ.out _ HN9.out
                  have HOX := Lib.hid (own_new HO2.out HNX.out)
                  have hN5 := (New.refl w9).alloc (.cells #[.int .i64 (x : Int)] 3)
                  have HOWN := Lib.hid (own_new HOX.out hN5)
                  have HEL := Lib.hid (elems_new w9 3 (.int .i64 (x : Int)))
                  have HSZ := Lib.hid (Nat.le_trans HN9.out.size hN5.size)
                  have HN5 := Lib.hid hN5
                  clear hN5
                  go_wp2_with (at_builtin; (refine wpList_append_elems rfl _ _ 25 rfl w.heap.size 3 i0 (.int .i64 0) 1 8 Try.underlying25 hi0 hz0 hz1 hz2 rfl (by decide) _ S.length _ (by rfl) HOWN.out _ _ 1 1 _ (by rfl) HEL.out rfl ?c1 ?c2 ?c3 HSZ.out ?_))
                  case c1 => intro y hy; simp at hy; subst hy; rfl
                  case c2 => unfold maxLen; omega
                  case c3 => omega
                  intro v' w' ho' hg' hb'
                  have hF := Fr.of_grown (S := fun k => Value.ownBlock _ = some k) hg' (fun k hk _ => hk)
                  have hN3 : New w w' := Fr.then (HN9.out.trans HN5.out) hF (fun _ _ e => e) (fun k hk e => by
                    have h1 := (own_row HOWN.out e).1
                    omega)
                  have HO' := Lib.hid ho'
                  clear ho' hg' hb' hF
                  go_wp2_with fail
                  refine ⟨⟨j + 1, by omega, by go_num, ?_, hN3⟩, by simp [intOf] <;> omega⟩
                  have hyes : selB z.Z k x = true := by unfold selB; rw [if_neg HK0.out, HZB.out]; simp [*]
                  show World.ownsRow _ _ _ _ _ _ _
                  rw [HSU.out, hyes, if_pos rfl, ← List.append_assoc, HS.out, nats_app, List.length_append]
                  exact HO'.out
              · have hpb : (p == 1) = false := by simpa using hp1
                go_wp2_with fail
                refine (C1.out _ HN2.out).mono ?_
                rintro e w9 ⟨rfl, hd9⟩
                have HN9 := Lib.hid (HN2.out.trans hd9.new)
                have HNX := Lib.hid hd9.new
                clear hd9
                have cj9 := CJ.out _ HN9.out
                have HOX := Lib.hid (own_new HO2.out HNX.out)
                have hN5 := (New.refl w9).alloc (.cells #[.int .i64 (x : Int)] 3)
                have HOWN := Lib.hid (own_new HOX.out hN5)
                have HEL := Lib.hid (elems_new w9 3 (.int .i64 (x : Int)))
                have HSZ := Lib.hid (Nat.le_trans HN9.out.size hN5.size)
                have HN5 := Lib.hid hN5
                clear hN5
                go_wp2_with (at_builtin; (refine wpList_append_elems rfl _ _ 25 rfl w.heap.size 3 i0 (.int .i64 0) 1 8 Try.underlying25 hi0 hz0 hz1 hz2 rfl (by decide) _ S.length _ (by rfl) HOWN.out _ _ 1 1 _ (by rfl) HEL.out rfl ?c1 ?c2 ?c3 HSZ.out ?_))
                case c1 => intro y hy; simp at hy; subst hy; rfl
                case c2 => unfold maxLen; omega
                case c3 => omega
                intro v' w' ho' hg' hb'
                have hF := Fr.of_grown (S := fun k => Value.ownBlock _ = some k) hg' (fun k hk _ => hk)
                have hN3 : New w w' := Fr.then (HN9.out.trans HN5.out) hF (fun _ _ e => e) (fun k hk e => by
                  have h1 := (own_row HOWN.out e).1
                  omega)
                have HO' := Lib.hid ho'
                clear ho' hg' hb' hF
                go_wp2_with fail
                refine ⟨⟨j + 1, by omega, by go_num, ?_, hN3⟩, by simp [intOf] <;> omega⟩
                have hyes : selB z.Z k x = true := by unfold selB; rw [if_neg HK0.out, HZB.out]; simp [*]
                show World.ownsRow _ _ _ _ _ _ _
                rw [HSU.out, hyes, if_pos rfl, ← List.append_assoc, HS.out, nats_app, List.length_append]
                exact HO'.out
          · have hjz : ¬ ((j + 1 : Nat) : Int) < ((m + 1 : Nat) : Int) := by omega
            have hje : j = m := by omega
            have h1 := HO2.out
            rw [hje, List.take_of_length_le (by rw [HM.out]; exact Nat.le_refl _)] at h1
            have HO3 := Lib.hid h1
            clear h1 hje
            go_wp2_with fail
            exact ⟨⟨k + 1, by omega, by go_num, HO3, HN2⟩, by simp [intOf] <;> omega⟩
      · have hkz : ¬ (k : Int) < 2 := by omega
        have hke : k = 2 := by omega
        subst hke
        have h1 := HO.out
        have ho : ordK z.Z t 2 = orderedL z.Z c := by rw [← HT.out]; exact ordK_two z.Z c HZ.out
        have hl : (ordK z.Z t 2).length = m + 1 := by rw [ho, HL.out, HCL.out]
        rw [hl, ho] at h1
        obtain ⟨A5, c5, hv5⟩ := own_form h1
        subst hv5
        have HE := Lib.hid (own_lower h1 hbs)
        clear h1 ho hl
        go_wp2_with fail
        go_ret
        exact ⟨_, _, rfl, HE.out, HN.out⟩
  · have hzz : ¬ ((c.getD 0 0 : Nat) : Int) = 0 := by have : ¬ c.getD 0 0 = 0 := hz; omega
    have HE : Hid (orderedL z.Z c = c) := by show orderedL z.Z c = c; unfold orderedL; rw [if_neg hz]
    have hzb : (((c.getD 0 0 : Nat) : Int) == 0) = false := by simpa using hzz
    generalize ((c.getD 0 0 : Nat) : Int) = x at c0 hzz hzb
    clear hz
    go_enter Try.func147, Try.ntmps147
    go_wp2_with fail
    go_ret
    exact ⟨_, _, rfl, by rw [HE.out]; exact HOW.out, New.refl w⟩
end Go.Proofs.Ytapfihlgemejiaa
-- gnomonref25.Classes.
namespace Go.Proofs.Ytapfihlgemejiaa
open Go.RowKit
theorem infoOf25b : (Try.prog.info? 25).map (fun i => (i.zero, i.size, i.bytes)) = some (some (.slice none 0 0), 1, 24) := infoOf25
section
variable {base : Nat} {w w1 w2 : World} {ls : List (List Nat)}
/-- One row longer by one. -/
theorem LolAt.join {g cp k x : Nat} {u v' : Value} {bs : List Value} (hlen : bs.length = ls.length) (ho : w.ownsRow base 25 1 (.slice (some ⟨g, 0, none⟩) ls.length cp) ls.length bs)
    (hr : ∀ i u, bs[i]? = some u → w.ownsRow base 3 1 u (ls.getD i []).length (nats (ls.getD i []))) (hd : ∀ (i j : Nat) u u' g, i ≠ j → bs[i]? = some u → bs[j]? = some u' → u.ownBlock = some g → u'.ownBlock ≠ some g)
    (hk : k < ls.length) (hu : bs[k]? = some u) (hn : New w w1) (hg : w1.grownBy w2 u.ownBlock) (hv : w2.ownsRow base 3 1 v' ((ls.getD k []).length + 1) (nats (ls.getD k []) ++ [.int .i64 x])) (hb : v'.ownBlock = u.ownBlock ∨ v'.ownBlock = some w1.heap.size) :
    LolAt base (w2.setCell ⟨g, k, none⟩ v') (.slice (some ⟨g, 0, none⟩) ls.length cp) (ls.set k (ls.getD k [] ++ [x])) := by
  have hF := Fr.of_grown (S := fun k => u.ownBlock = some k) hg (fun k hk _ => hk)
  have ho1 := own_new ho hn
  have hu1 := own_new (hr k u hu) hn
  have ho2 := own_fr ho1 hF (fun g' hg' e => own_ne_own hu1 ho1 (by decide) e hg')
  obtain ⟨cur, hcur⟩ := (own_row ho2 (g := g) rfl).2
  have far : ∀ {n v xs}, w2.ownsRow base 3 1 v n xs → (w2.setCell ⟨g, k, none⟩ v').ownsRow base 3 1 v n xs := fun {n v xs} h =>
    own_keep h fun g' hg' => heap_setCell_other w2 ⟨g, k, none⟩ g' v' (fun e => own_ne h hcur (by decide) (by rw [hg', e]))
  have hlt : ∀ (i : Nat) (u : Value) (g' : Nat), bs[i]? = some u → u.ownBlock = some g' → g' < w1.heap.size := fun i u g' h1 h2 => own_lt (own_new (hr i u h1) hn) h2
  refine ⟨bs.set k v', by rw [List.length_set, List.length_set]; exact hlen, by rw [List.length_set]; exact own_set ho2 k v', fun i y hy => ?_, fun i j y y' g' hij hy hy' hg1 hg2 => ?_⟩
  · rw [List.getElem?_set] at hy
    by_cases e : k = i
    · subst e
      rw [if_pos rfl, if_pos (by omega)] at hy
      have hy : v' = y := Option.some.inj hy
      subst hy
      have e2 : (ls.set k (ls.getD k [] ++ [x])).getD k [] = ls.getD k [] ++ [x] := by
        rw [List.getD_eq_getElem?_getD (l := ls.set _ _), List.getElem?_set, if_pos rfl, if_pos hk]; rfl
      rw [e2, List.length_append, nats_app]
      exact far hv
    · rw [if_neg e] at hy
      have e2 : (ls.set k (ls.getD k [] ++ [x])).getD i [] = ls.getD i [] := by
        rw [List.getD_eq_getElem?_getD, List.getElem?_set, if_neg e, ← List.getD_eq_getElem?_getD]
      rw [e2]
      exact far (own_fr (own_new (hr i y hy) hn) hF (fun g' hg' e' => hd k i u y g' e hu hy e' hg'))
  · rw [List.getElem?_set] at hy hy'
    by_cases e : k = i
    · subst e
      rw [if_pos rfl, if_pos (by omega)] at hy
      rw [if_neg hij] at hy'
      have hy : v' = y := Option.some.inj hy
      subst hy
      rcases hb with hb | hb
      · rw [hb] at hg1; exact hd k j u y' g' hij hu hy' hg1 hg2
      · rw [hb] at hg1; have := hlt j y' g' hy' hg2; cases hg1; omega
    · rw [if_neg e] at hy
      by_cases e2 : k = j
      · subst e2
        rw [if_pos rfl, if_pos (by omega)] at hy'
        have hy' : v' = y' := Option.some.inj hy'
        subst hy'
        rcases hb with hb | hb
        · rw [hb] at hg2; exact hd k i u y g' e hu hy hg2 hg1
        · rw [hb] at hg2; have := hlt i y g' hy hg1; cases hg2; omega
      · rw [if_neg e2] at hy'
        exact hd i j y y' g' hij hy hy' hg1 hg2
/-- One row more. -/
theorem LolAt.more {v v' r : Value} {n : Nat} {bs : List Value} {l : List Nat} (hlen : bs.length = ls.length) (ho : w.ownsRow base 25 1 v ls.length bs)
    (hr : ∀ i u, bs[i]? = some u → w.ownsRow base 3 1 u (ls.getD i []).length (nats (ls.getD i []))) (hd : ∀ (i j : Nat) u u' g, i ≠ j → bs[i]? = some u → bs[j]? = some u' → u.ownBlock = some g → u'.ownBlock ≠ some g)
    (hn : New w w1) (hg : w1.grownBy w2 v.ownBlock) (hrow : w1.ownsRow base 3 1 r l.length (nats l)) (hnew : r.ownBlock = some n) (hge : w.heap.size ≤ n) (hv : w2.ownsRow base 25 1 v' (ls.length + 1) (bs ++ [r])) :
    LolAt base w2 v' (ls ++ [l]) := by
  have hF := Fr.of_grown (S := fun k => v.ownBlock = some k) hg (fun k hk _ => hk)
  have ho1 := own_new ho hn
  have hlt : ∀ (i : Nat) (u : Value) (g' : Nat), bs[i]? = some u → u.ownBlock = some g' → g' < w.heap.size := fun i u g' h1 h2 => own_lt (hr i u h1) h2
  refine ⟨bs ++ [r], by simp [hlen], by rw [List.length_append]; exact hv, fun i y hy => ?_, fun i j y y' g' hij hy hy' hg1 hg2 => ?_⟩
  · by_cases e : i < bs.length
    · rw [List.getElem?_append_left e] at hy
      have e2 : (ls ++ [l]).getD i [] = ls.getD i [] := by
        rw [List.getD_eq_getElem?_getD, List.getElem?_append_left (by omega), ← List.getD_eq_getElem?_getD]
      rw [e2]
      exact own_fr (own_new (hr i y hy) hn) hF (fun g' hg' e' => own_ne_own (own_new (hr i y hy) hn) ho1 (by decide) hg' e')
    · have hi := (List.getElem?_eq_some_iff.1 hy).1
      rw [List.length_append] at hi
      have hi2 : i = bs.length := by simp at hi; omega
      subst hi2
      rw [List.getElem?_append_right (by omega), Nat.sub_self] at hy
      have hy : r = y := Option.some.inj hy
      subst hy
      have e2 : (ls ++ [l]).getD bs.length [] = l := by
        rw [List.getD_eq_getElem?_getD, List.getElem?_append_right (by omega), hlen, Nat.sub_self]; rfl
      rw [e2]
      exact own_fr hrow hF (fun g' hg' e' => own_ne_own hrow ho1 (by decide) hg' e')
  · have side : ∀ (i : Nat) (y : Value), (bs ++ [r])[i]? = some y → (i < bs.length ∧ bs[i]? = some y) ∨ (i = bs.length ∧ y = r) := fun i y hy => by
      by_cases e : i < bs.length
      · rw [List.getElem?_append_left e] at hy; exact .inl ⟨e, hy⟩
      · have hi := (List.getElem?_eq_some_iff.1 hy).1
        rw [List.length_append] at hi
        have hi2 : i = bs.length := by simp at hi; omega
        subst hi2
        rw [List.getElem?_append_right (by omega), Nat.sub_self] at hy
        exact .inr ⟨rfl, (Option.some.inj hy).symm⟩
    rcases side i y hy with ⟨a1, a2⟩ | ⟨a1, a2⟩ <;> rcases side j y' hy' with ⟨b1, b2⟩ | ⟨b1, b2⟩
    · exact hd i j y y' g' hij a2 b2 hg1 hg2
    · subst b2; have := hlt i y g' a2 hg1; rw [hnew] at hg2; cases hg2; omega
    · subst a2; have := hlt j y' g' b2 hg2; rw [hnew] at hg1; cases hg1; omega
    · omega
end
set_option maxHeartbeats 400000 in
theorem rclasses_nil (w : World) : Calls Try.prog 71 #[.pointer none] w fun e w' => e = .returned (.tuple #[.slice none 0 0, .int .i64 1]) ∧ w = w' := by
  go_enter Try.func71, Try.ntmps71
  go_wp2
  go_ret2
  exact ⟨rfl, rfl⟩
set_option maxHeartbeats 400000 in
theorem rclasses_empty (b : Nat) (z : Zn) (w : World) (h : RefAt w b z) (hz : gt z.Z 0 ≤ 1) (he : emptyB z.Z = true) : Calls Try.prog 71 #[.pointer (some ⟨b, 0, none⟩)] w fun e w' => e = .returned (.tuple #[.slice none 0 0, .int .i64 14]) ∧ w = w' := by
  have EM := Lib.hid (rempty_any b z w h hz)
  rw [he] at EM
  clear h he hz
  go_enter Try.func71, Try.ntmps71
  go_wp2_with fail
  refine EM.out.mono ?_
  rintro e w' ⟨rfl, rfl⟩
  go_wp2_with fail
  go_ret2
  exact ⟨rfl, rfl⟩
set_option maxRecDepth 100000 in
set_option maxHeartbeats 8000000 in
theorem rclasses_any (b : Nat) (z : Zn) (w : World) (h : RefAt w b z) (hz : ZCl z.n z.Z) :
    Calls Try.prog 71 #[.pointer (some ⟨b, 0, none⟩)] w fun e w' => ∃ v, e = .returned (.tuple #[v, .int .i64 0]) ∧ LolAt w.heap.size w' v (classesL z.Z z.n) ∧ New w w' := by
  obtain ⟨i0, hi0, hy0, hy1, hy2⟩ := info_parts infoOf3
  obtain ⟨j0, hj0, hx0, hx1, hx2⟩ := info_parts infoOf25
  have EM := Lib.hid (fun W (hn : New w W) => rempty_any b z W (h.new hn) (ZGood.le1 ⟨hz.dim, .inr hz⟩))
  rw [hz.not_empty] at EM
  have DI := Lib.hid (fun W (hn : New w W) => rdim_any b z W (h.new hn))
  have CE := Lib.hid (fun W (hn : New w W) i j (hi : i ≤ z.n) (hj : j ≤ z.n) n => Calls.quiet_of (n := n) (rcel_any b z i j (W.drewN n) (h.new (hn.drewN n)) hi hj))
  have hdim := h.dim
  have HZ := Lib.hid hz
  clear h hz
  go_enter Try.func71, Try.ntmps71
  go_wp2_with fail
  refine (EM.out _ (New.refl w)).mono ?_
  rintro e w' ⟨rfl, rfl⟩
  go_wp2_with fail
  go_loopw [4, 5] (fun v ci wr => ∃ m : Nat, m ≤ z.n + 1 ∧ ci = .int .i64 m ∧ Hid (LolAt w.heap.size wr v (clsTo z.Z m)) ∧ Hid (New w wr))
    (fun _ ci _ => z.n + 1 - (intOf ci).toNat)
  case atStart => exact ⟨0, by omega, by go_num, ⟨[], rfl, World.ownsRow_nil _ _ _ _, (fun i u h => by simp at h), fun i j u u' g _ h => by simp at h⟩, New.refl w⟩
  case round =>
    obtain ⟨m, hm, rfl, HL, HN⟩ := hrel
    by_cases hmn : m ≤ z.n
    · have hmz : (m : Int) ≤ (z.n : Int) := by omega
      go_wp2_with fail
      refine (DI.out _ HN.out).mono ?_
      rintro e w' ⟨rfl, rfl⟩
      go_wp2_with fail
      obtain ⟨wo, rfl⟩ : ∃ wo : World, wo = wr := ⟨_, rfl⟩
      obtain ⟨len, hlen⟩ : ∃ len, (clsTo z.Z m).length = len := ⟨_, rfl⟩
      have HLEN := Lib.hid hlen
      have hlen9 : len ≤ 9 := by have := clsTo_length_le z.Z m; omega
      obtain ⟨A, c, hv⟩ := HL.out.form
      subst hv
      rw [hlen] at HL ⊢
      go_loopw [6, 7] (fun fv ck wr => ∃ (k : Nat) (fd : Bool), k ≤ len ∧ ck = .int .i64 k ∧ fv = .bool fd ∧ Hid (LolAt w.heap.size wr (.slice A len c) (clsTo z.Z (if fd = true then m + 1 else m))) ∧
          Hid (fd = false → ∀ k', k' < k → (headsL z.Z m m)[k']? ≠ some (headOf z.Z m)) ∧ Hid (New w wr))
        (fun _ ck _ => len + 1 - (intOf ck).toNat)
      case atStart => exact ⟨0, false, Nat.zero_le _, by go_num, by go_num, HL, (fun _ k' hk' => absurd hk' (Nat.not_lt_zero _)), HN⟩
      case round =>
        obtain ⟨k, fd, hk, rfl, rfl, HL, HB, HN⟩ := hrel
        cases fd with
        | true =>
          have HL2 : Hid (LolAt w.heap.size wr (.slice A len c) (clsTo z.Z (m + 1))) := HL
          clear HL hlen
          by_cases hkq : (k : Int) < (len : Int)
          · go_wp2_with fail
            exact ⟨⟨m + 1, by omega, by go_num, HL2, HN⟩, by simp [intOf] <;> omega⟩
          · go_wp2_with fail
            exact ⟨⟨m + 1, by omega, by go_num, HL2, HN⟩, by simp [intOf] <;> omega⟩
        | false =>
          have HL2 : Hid (LolAt w.heap.size wr (.slice A len c) (clsTo z.Z m)) := HL
          have HB2 := HB.out rfl
          have HB3 := Lib.hid HB2
          clear HL HB HB2
          by_cases hkl : k < len
          · have hkz : (k : Int) < (len : Int) := by omega
            obtain ⟨bs, b1, b2, b3, b4⟩ := HL2.out
            have hkc : k < (clsTo z.Z m).length := by rw [hlen]; exact hkl
            rw [hlen] at b1 b2
            obtain ⟨u, hu⟩ : ∃ u, bs[k]? = some u := ⟨_, List.getElem?_eq_getElem (by omega)⟩
            have hru := b3 k u hu
            obtain ⟨Ak, ck, hk1⟩ := own_form hru
            subst hk1
            obtain ⟨g, hg, _, _, hcell, hfrz⟩ := own_cell b2 (by omega)
            subst hg
            have s0 := hcell k _ hu
            have f0 := hfrz k
            have hpos := HZ.out.cls_pos (by omega : m ≤ z.n + 1) hkc
            obtain ⟨gk, hgk, _, _, hcellk, _⟩ := own_cell hru (by rw [nats_length]; exact hpos)
            subst hgk
            have s1 := hcellk 0 _ (nats_get _ 0 hpos)
            have hh0 : ((clsTo z.Z m).getD k []).getD 0 0 = hd ((clsTo z.Z m).getD k []) := rfl
            have hhle : hd ((clsTo z.Z m).getD k []) ≤ z.n := cls_le (by omega)
            have hj := HZ.out.joins hmn hkc
            rw [hh0] at s1
            obtain ⟨y, hy⟩ : ∃ y, hd ((clsTo z.Z m).getD k []) = y := ⟨_, rfl⟩
            rw [hy] at s1 hhle hj
            have C1 := CE.out wr HN.out m y hmn hhle
            have C2 := CE.out wr HN.out y m hhle hmn
            have hp1 := HZ.out.rng m y hmn hhle
            have hp2 := HZ.out.rng y m hhle hmn
            have P := (fun n => Calls.quiet_of_same (n := n) ((rplus25_any (gt z.Z (9 * m + y)) (gt z.Z (9 * y + m)) (wr.drewN n) hp1 hp2).mono fun _ _ h => ⟨h.1, h.2.symm⟩))
            have e3 : plus25 (cellN z.Z m y) (cellN z.Z y m) = plus25 (gt z.Z (9 * m + y)) (gt z.Z (9 * y + m)) := rfl
            rw [e3] at hj
            generalize gt z.Z (9 * m + y) = p at *
            generalize gt z.Z (9 * y + m) = q at *
            obtain ⟨s, hs⟩ : ∃ s, plus25 p q = s := ⟨_, rfl⟩
            rw [hs] at P hj
            have HC1 := Lib.hid C1
            have HC2 := Lib.hid C2
            have HP := Lib.hid P
            have HJ := Lib.hid hj
            obtain ⟨nk, hnk⟩ : ∃ nk, ((clsTo z.Z m).getD k []).length = nk := ⟨_, rfl⟩
            have hnk9 : nk ≤ 9 := by have := clsTo_rows z.Z m k; omega
            have hnk0 : 0 < nk := by omega
            rw [hnk] at hru s0 hu
            have HBS := Lib.hid (And.intro b1 (And.intro b2 (And.intro b3 b4)))
            have HU := Lib.hid hu
            have HRU := Lib.hid hru
            have HNK := Lib.hid hnk
            clear C1 C2 P hj hs hp1 hp2 e3 b1 b2 b3 b4 hu hru hcell hfrz hcellk hnk hpos hh0 hy hlen hkc
            by_cases hs1 : s ≤ 1
            · go_wp2_with fail
              go_quiet ((first | (go_at_call 150; with_reducible exact HP.out _) | (go_at_call 148; first | with_reducible exact HC1.out _ | with_reducible exact HC2.out _)))
              generalize hwq : wr.drewN nq = wq
              have hqd : Drew wr wq := ⟨nq, hwq.symm⟩
              have HNQ := Lib.hid (HN.out.trans hqd.new)
              have HQ := Lib.hid hqd.new
              have s0 : wq.cell? ⟨g, k, none⟩ = some (.slice (some ⟨gk, 0, none⟩) nk ck) := by rw [← hwq]; exact s0
              have f0 : wq.frozen? ⟨g, k, none⟩ = false := by rw [← hwq]; exact f0
              clear hqd hwq s1
              have hN5 := (New.refl wq).alloc (.cells #[.int .i64 (m : Int)] 3)
              have HOWN := Lib.hid (own_new HRU.out (HQ.out.trans hN5))
              have HEL := Lib.hid (elems_new wq 3 (.int .i64 (m : Int)))
              have HSZ := Lib.hid (Nat.le_trans HNQ.out.size hN5.size)
              have HN5 := Lib.hid (HQ.out.trans hN5)
              clear hN5
              go_wp2_with (at_builtin; (refine wpList_append_elems rfl _ _ 25 rfl w.heap.size 3 i0 (.int .i64 0) 1 8 Try.underlying25 hi0 hy0 hy1 hy2 rfl (by decide) _ nk _ (by rfl) HOWN.out _ _ 1 1 _ (by rfl) HEL.out rfl ?c1 ?c2 ?c3 HSZ.out ?_))
              case c1 => intro y hy; simp at hy; subst hy; rfl
              case c2 => unfold maxLen; omega
              case c3 => omega
              intro v' w' ho' hg' hb'
              obtain ⟨A9, c9, hv9⟩ := own_form ho'
              subst hv9
              have hF := Fr.of_grown (S := fun k => Value.ownBlock _ = some k) hg' (fun k hk _ => hk)
              have hN3 : New w w' := Fr.then (HN.out.trans HN5.out) hF (fun _ _ e => e) (fun k hk e => by
                have h1 := (own_row HOWN.out e).1
                omega)
              have hgl : w.heap.size ≤ g := (own_row HBS.out.2.1 (g := g) rfl).1
              have hj1 := HJ.out.1 hs1
              have hjn := LolAt.join (by rw [HLEN.out]; exact HBS.out.1) (by rw [HLEN.out]; exact HBS.out.2.1) HBS.out.2.2.1 HBS.out.2.2.2 (by rw [HLEN.out]; exact hkl) HU.out HN5.out hg' (by rw [HNK.out]; exact ho') (by rw [show (wq.alloc (.cells #[.int .i64 (m : Int)] 3)).heap.size = wq.heap.size + 1 by simp]; exact hb')
              rw [← clsTo_join HZ.out hmn hj1, HLEN.out] at hjn
              have hcell2 : w'.cell? ⟨g, k, none⟩ = some (.slice (some ⟨gk, 0, none⟩) nk ck) ∧ w'.frozen? ⟨g, k, none⟩ = false := by
                have h1 := own_new HBS.out.2.1 HN5.out
                have h2 := own_fr h1 hF (fun g' hg' e => own_ne_own HOWN.out h1 (by decide) e hg')
                obtain ⟨g3, hg3, _, _, hc3, hf3⟩ := own_cell h2 (by rw [HBS.out.1]; omega)
                cases hg3
                exact ⟨hc3 k _ HU.out, hf3 k⟩
              have s2 := hcell2.1
              have f2 := hcell2.2
              have HJN := Lib.hid hjn
              have HN3 := Lib.hid (Fr.set (p := ⟨g, k, none⟩) hN3 (.inr hgl) (.slice A9 (nk + 1) c9))
              clear ho' hg' hb' hF hjn hj1 hcell2 hN3 s0 f0
              go_wp2_with fail
              exact ⟨⟨k + 1, true, by omega, by go_num, by go_num, (by show LolAt _ _ _ _; rw [if_pos rfl]; exact HJN.out), (fun h => by cases h), HN3⟩, by simp [intOf] <;> omega⟩
            · go_wp2_with fail
              go_quiet ((first | (go_at_call 150; with_reducible exact HP.out _) | (go_at_call 148; first | with_reducible exact HC1.out _ | with_reducible exact HC2.out _)))
              generalize hwq : wr.drewN nq = wq
              have hqd : Drew wr wq := ⟨nq, hwq.symm⟩
              have HNQ := Lib.hid (HN.out.trans hqd.new)
              have HL3 := Lib.hid (HL2.out.new hqd.new)
              have HB4 : Hid (∀ k', k' < k + 1 → (headsL z.Z m m)[k']? ≠ some (headOf z.Z m)) := fun k' hk' => by
                by_cases e : k' = k
                · subst e; exact fun h => absurd (HJ.out.2 h) (by omega)
                · exact HB3.out k' (by omega)
              clear hqd hwq s0 s1 f0
              go_wp2_with fail
              exact ⟨⟨k + 1, false, by omega, by go_num, by go_num, (by show LolAt _ _ _ _; rw [if_neg (by decide)]; exact HL3.out), (fun _ => HB4.out), HNQ⟩, by simp [intOf] <;> omega⟩
          · have hkz : ¬ (k : Int) < (len : Int) := by omega
            obtain ⟨bs, b1, b2, b3, b4⟩ := HL2.out
            have hnew := clsTo_new HZ.out hmn (fun k' hk' => HB3.out k' (by omega))
            have hN5 := ((New.refl wr).alloc (.cells #[.int .i64 (m : Int)] 3)).alloc (.cells #[.slice (some ⟨wr.heap.size, 0, none⟩) 1 1] 25)
            rw [hlen] at b1 b2
            have HOWN := Lib.hid (own_new b2 hN5)
            have hel := elems_new (wr.alloc (.cells #[.int .i64 (m : Int)] 3)) 25 (.slice (some ⟨wr.heap.size, 0, none⟩) 1 1)
            rw [show (wr.alloc (.cells #[.int .i64 (m : Int)] 3)).heap.size = wr.heap.size + 1 by simp] at hel
            have HEL := Lib.hid hel
            clear hel
            have HSZ := Lib.hid (Nat.le_trans HN.out.size hN5.size)
            have HN5 := Lib.hid hN5
            have HBS := Lib.hid (And.intro b1 (And.intro b2 (And.intro b3 b4)))
            have hrow : ((wr.alloc (.cells #[.int .i64 (m : Int)] 3)).alloc (.cells #[.slice (some ⟨wr.heap.size, 0, none⟩) 1 1] 25)).ownsRow w.heap.size 3 1 (.slice (some ⟨wr.heap.size, 0, none⟩) 1 1) 1 (nats [m]) :=
              own_new (w := wr.alloc (.cells #[.int .i64 (m : Int)] 3)) ⟨rfl, .inr ⟨wr.heap.size, 1, #[.int .i64 m], rfl, HN.out.size, heap_alloc_new wr _, by decide, by decide, rfl, rfl⟩⟩ ((New.refl _).alloc _)
            have HROW := Lib.hid hrow
            have HNEW := Lib.hid hnew
            clear hnew hN5 b1 b2 b3 b4 hrow hlen
            go_wp2_with (at_builtin; (refine wpList_append_elems rfl _ _ 52 rfl w.heap.size 25 j0 (.slice none 0 0) 1 24 Try.underlying52 hj0 hx0 hx1 hx2 rfl (by decide) _ len _ (by rfl) HOWN.out _ _ 1 1 _ (by rfl) HEL.out rfl ?c1 ?c2 ?c3 HSZ.out ?_))
            case c1 => rfl
            case c2 => unfold maxLen; omega
            case c3 => omega
            intro v' w' ho' hg' hb'
            have hF := Fr.of_grown (S := fun k => Value.ownBlock _ = some k) hg' (fun k hk _ => hk)
            have hN3 : New w w' := Fr.then (HN.out.trans HN5.out) hF (fun _ _ e => e) (fun k hk e => by
              have h1 := (own_row HOWN.out e).1
              omega)
            have hmo := LolAt.more (ls := clsTo z.Z m) (l := [m]) (by rw [HLEN.out]; exact HBS.out.1) (by rw [HLEN.out]; exact HBS.out.2.1) HBS.out.2.2.1 HBS.out.2.2.2 HN5.out hg' HROW.out rfl (Nat.le_refl _) (by rw [HLEN.out]; exact ho')
            rw [← HNEW.out] at hmo
            have HMO := Lib.hid hmo
            have HN3 := Lib.hid hN3
            clear ho' hg' hb' hF hmo hN3
            go_wp2_with fail
            exact ⟨⟨m + 1, by omega, by go_num, HMO, HN3⟩, by simp [intOf] <;> omega⟩
    · have hmz : ¬ (m : Int) ≤ (z.n : Int) := by omega
      have hme : m = z.n + 1 := by omega
      have h1 := HL.out
      rw [hme, clsTo_all] at h1
      have HL2 := Lib.hid h1
      clear h1 hme
      go_wp2_with fail
      refine (DI.out _ HN.out).mono ?_
      rintro e w' ⟨rfl, rfl⟩
      go_wp2_with fail
      go_ret2
      exact ⟨_, rfl, HL2.out, HN.out⟩
end Go.Proofs.Ytapfihlgemejiaa
