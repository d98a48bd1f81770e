/- reduce: a reader's cell, the way through a third one. | reduce.Classes, plain: heads and classes of a zone's clocks. -/
import Derived.Test.YtapfihlgemejiaaN20
import Derived.Test.YtapfihlgemejiaaO0
import Derived.Test.YtapfihlgemejiaaD5
-- reduce: a reader's cell, the way through a third one.
namespace Go.Proofs.Ytapfihlgemejiaa
open Go.RowKit

def rdr (b : Nat) : Value := .agg #[.pointer (some ⟨b, 0, none⟩)]
set_option maxHeartbeats 400000 in
theorem at_any (b : Nat) (z : Zn) (i j : Nat) (w : World) (h : ZoneAt w b z) (hi : i ≤ z.n) (hj : j ≤ z.n) :
    Calls Try.prog 140 #[.agg #[.pointer (some ⟨b, 0, none⟩)], .int .i64 i, .int .i64 j] w fun e w' => e = .returned (.int .i32 (gt z.Z (9 * i + j))) ∧ New w w' := by
  have CE := Lib.hid (fun W (hn : New w W) => cell_any b z i j W (h.new hn) hi hj)
  generalize gt z.Z (9 * i + j) = x at *
  clear h hi hj
  go_enter Try.func140, Try.ntmps140
  go_wp2_with fail
  refine (CE.out _ ((New.refl w).alloc _)).mono ?_
  rintro e w' ⟨rfl, rfl⟩
  go_wp2_with fail
  go_ret
  exact ⟨rfl, (New.refl w).alloc _⟩
theorem enc_of (x : Int) : enc (x / 2) (decide (x % 2 = 1)) = x := by
  unfold enc
  by_cases h : x % 2 = 1
  · rw [decide_eq_true h]; simp; omega
  · rw [decide_eq_false h]; simp; omega
set_option maxHeartbeats 400000 in
theorem value_inf (w : World) : Calls Try.prog 113 #[.int .i32 2147483647] w fun e w' => e = .returned (.tuple #[.int .i64 0, .bool false, .bool false]) ∧ w = w' := by
  go_enter Try.func113, Try.ntmps113
  go_wp2_with fail
  exact bodyPost_ret (v := .tuple #[.int .i64 0, .bool false, .bool false]) (by simp [results, Try.results113, go_sem]) rfl ⟨rfl, rfl⟩
set_option maxHeartbeats 400000 in
theorem bmade_err (v : Int) (r : Bool) (h : v < -268435456 ∨ 268435456 < v) (w : World) :
    Calls Try.prog 106 #[.int .i64 v, .bool r] w fun e w' => e = .returned (.tuple #[.int .i32 0, .int .i64 10]) ∧ w = w' := by
  by_cases h1 : v < -268435456
  · go_enter Try.func106, Try.ntmps106
    go_wp2_with fail
    go_ret2
    exact ⟨rfl, rfl⟩
  · have h2 : 268435456 < v := by omega
    go_enter Try.func106, Try.ntmps106
    go_wp2_with fail
    go_ret2
    exact ⟨rfl, rfl⟩
/-- Does a cell stand for a number? -/
def Fin32 (x : Int) : Prop := -536870912 ≤ x ∧ x ≤ 536870913
/-- The bound by way of a third clock. -/
def wayI (x y : Int) : Int := if x = 2147483647 ∨ y = 2147483647 then 2147483647 else if x / 2 + y / 2 < -268435456 ∨ 268435456 < x / 2 + y / 2 then 2147483647 else enc (x / 2 + y / 2) (decide (x % 2 = 1) && decide (y % 2 = 1))
/-- Value of a cell. -/
def valT (x : Int) : Value := if x = 2147483647 then .tuple #[.int .i64 0, .bool false, .bool false] else .tuple #[.int .i64 (x / 2), .bool (decide (x % 2 = 1)), .bool true]
theorem value_cell (x : Int) (h : x = 2147483647 ∨ Fin32 x) (w : World) : Calls Try.prog 113 #[.int .i32 x] w fun e w' => e = .returned (valT x) ∧ w = w' := by
  unfold valT
  by_cases h1 : x = 2147483647
  · rw [if_pos h1, h1]; exact value_inf w
  · rw [if_neg h1]
    obtain ⟨h2, h3⟩ := h.resolve_left h1
    have := value_any (x / 2) (decide (x % 2 = 1)) (by omega) (by omega) w
    rwa [enc_of] at this
set_option maxHeartbeats 400000 in
theorem lessThan_err (v : Int) (h : v < -268435456 ∨ 268435456 < v) (w : World) : Calls Try.prog 41 #[.int .i64 v] w fun e w' => e = .returned (.tuple #[.int .i32 0, .int .i64 10]) ∧ w = w' := by
  have BM := Lib.hid (fun W => bmade_err v false h W)
  clear h
  go_enter Try.func41, Try.ntmps41
  go_wp2_with fail
  refine (BM.out _).mono ?_
  rintro e w' ⟨rfl, rfl⟩
  go_wp2_with fail
  go_ret2
  exact ⟨rfl, rfl⟩
set_option maxHeartbeats 400000 in
theorem atMost_err (v : Int) (h : v < -268435456 ∨ 268435456 < v) (w : World) : Calls Try.prog 39 #[.int .i64 v] w fun e w' => e = .returned (.tuple #[.int .i32 0, .int .i64 10]) ∧ w = w' := by
  have BM := Lib.hid (fun W => bmade_err v true h W)
  clear h
  go_enter Try.func39, Try.ntmps39
  go_wp2_with fail
  refine (BM.out _).mono ?_
  rintro e w' ⟨rfl, rfl⟩
  go_wp2_with fail
  go_ret2
  exact ⟨rfl, rfl⟩
/-- The walk, over what the callees answer. -/
def At2 (b : Nat) (i k j : Nat) (x y : Int) (w : World) : Prop :=
  (∀ W, New w W → Calls Try.prog 140 #[.agg #[.pointer (some ⟨b, 0, none⟩)], .int .i64 i, .int .i64 k] W fun e w' => e = .returned (.int .i32 x) ∧ New W w') ∧
  (∀ W, New w W → Calls Try.prog 140 #[.agg #[.pointer (some ⟨b, 0, none⟩)], .int .i64 k, .int .i64 j] W fun e w' => e = .returned (.int .i32 y) ∧ New W w')
set_option maxHeartbeats 1000000 in
theorem way_inf1 (b i k j : Nat) (x y : Int) (w : World) (hA : At2 b i k j x y w) (v1 : ∀ W, Calls Try.prog 113 #[.int .i32 x] W fun e w' => e = .returned (.tuple #[.int .i64 0, .bool false, .bool false]) ∧ W = w') (v : Int) (p q : Bool) (v2 : ∀ W, Calls Try.prog 113 #[.int .i32 y] W fun e w' => e = .returned (.tuple #[.int .i64 v, .bool p, .bool q]) ∧ W = w') :
    Calls Try.prog 151 #[.agg #[.pointer (some ⟨b, 0, none⟩)], .int .i64 i, .int .i64 k, .int .i64 j] w fun e w' => e = .returned (.int .i32 2147483647) ∧ New w w' := by
  have A1 := Lib.hid hA.1
  have A2 := Lib.hid hA.2
  have V1 := Lib.hid v1
  have V2 := Lib.hid v2
  clear hA v1 v2
  go_enter Try.func151, Try.ntmps151
  go_wp2_with fail
  refine (A1.out _ ((New.refl w).alloc _)).mono ?_
  rintro e w1 ⟨rfl, hn1⟩
  have R1 := hn1.row (Row.new_at w 196 [.pointer (some ⟨b, 0, none⟩)] rfl)
  have N1 := Lib.hid (((New.refl w).alloc _).trans hn1)
  have c1 : w1.cell? ⟨w.heap.size, 0, none⟩ = some (.pointer (some ⟨b, 0, none⟩)) := R1.cell 0
  clear R1 hn1 A1
  go_wp2_with fail
  refine (V1.out _).mono ?_
  rintro e w' ⟨rfl, rfl⟩
  go_wp2_with fail
  refine (A2.out _ N1.out).mono ?_
  rintro e w2 ⟨rfl, hn2⟩
  have N2 := Lib.hid (N1.out.trans hn2)
  clear c1 hn2 A2 N1
  go_wp2_with fail
  refine (V2.out _).mono ?_
  rintro e w' ⟨rfl, rfl⟩
  go_wp2_with fail
  go_ret
  exact ⟨rfl, N2.out⟩
set_option maxHeartbeats 1000000 in
theorem way_inf2 (b i k j : Nat) (x y : Int) (w : World) (hA : At2 b i k j x y w) (u : Int) (p : Bool) (v1 : ∀ W, Calls Try.prog 113 #[.int .i32 x] W fun e w' => e = .returned (.tuple #[.int .i64 u, .bool p, .bool true]) ∧ W = w') (v2 : ∀ W, Calls Try.prog 113 #[.int .i32 y] W fun e w' => e = .returned (.tuple #[.int .i64 0, .bool false, .bool false]) ∧ W = w') :
    Calls Try.prog 151 #[.agg #[.pointer (some ⟨b, 0, none⟩)], .int .i64 i, .int .i64 k, .int .i64 j] w fun e w' => e = .returned (.int .i32 2147483647) ∧ New w w' := by
  have A1 := Lib.hid hA.1
  have A2 := Lib.hid hA.2
  have V1 := Lib.hid v1
  have V2 := Lib.hid v2
  clear hA v1 v2
  go_enter Try.func151, Try.ntmps151
  go_wp2_with fail
  refine (A1.out _ ((New.refl w).alloc _)).mono ?_
  rintro e w1 ⟨rfl, hn1⟩
  have R1 := hn1.row (Row.new_at w 196 [.pointer (some ⟨b, 0, none⟩)] rfl)
  have N1 := Lib.hid (((New.refl w).alloc _).trans hn1)
  have c1 : w1.cell? ⟨w.heap.size, 0, none⟩ = some (.pointer (some ⟨b, 0, none⟩)) := R1.cell 0
  clear R1 hn1 A1
  go_wp2_with fail
  refine (V1.out _).mono ?_
  rintro e w' ⟨rfl, rfl⟩
  go_wp2_with fail
  refine (A2.out _ N1.out).mono ?_
  rintro e w2 ⟨rfl, hn2⟩
  have N2 := Lib.hid (N1.out.trans hn2)
  clear c1 hn2 A2 N1
  go_wp2_with fail
  refine (V2.out _).mono ?_
  rintro e w' ⟨rfl, rfl⟩
  go_wp2_with fail
  go_ret
  exact ⟨rfl, N2.out⟩
set_option maxHeartbeats 1000000 in
theorem way_err (b i k j : Nat) (x y : Int) (w : World) (hA : At2 b i k j x y w) (u v : Int) (p q : Bool) (hu1 : -268435456 ≤ u) (hu2 : u ≤ 268435456) (hv1 : -268435456 ≤ v) (hv2 : v ≤ 268435456) (v1 : ∀ W, Calls Try.prog 113 #[.int .i32 x] W fun e w' => e = .returned (.tuple #[.int .i64 u, .bool p, .bool true]) ∧ W = w') (v2 : ∀ W, Calls Try.prog 113 #[.int .i32 y] W fun e w' => e = .returned (.tuple #[.int .i64 v, .bool q, .bool true]) ∧ W = w') (hs : u + v < -268435456 ∨ 268435456 < u + v) :
    Calls Try.prog 151 #[.agg #[.pointer (some ⟨b, 0, none⟩)], .int .i64 i, .int .i64 k, .int .i64 j] w fun e w' => e = .returned (.int .i32 2147483647) ∧ New w w' := by
  have A1 := Lib.hid hA.1
  have A2 := Lib.hid hA.2
  have V1 := Lib.hid v1
  have V2 := Lib.hid v2
  have LE := Lib.hid (fun W => lessThan_err (u + v) hs W)
  have AE := Lib.hid (fun W => atMost_err (u + v) hs W)
  clear hs
  clear hA v1 v2
  go_enter Try.func151, Try.ntmps151
  go_wp2_with fail
  refine (A1.out _ ((New.refl w).alloc _)).mono ?_
  rintro e w1 ⟨rfl, hn1⟩
  have R1 := hn1.row (Row.new_at w 196 [.pointer (some ⟨b, 0, none⟩)] rfl)
  have N1 := Lib.hid (((New.refl w).alloc _).trans hn1)
  have c1 : w1.cell? ⟨w.heap.size, 0, none⟩ = some (.pointer (some ⟨b, 0, none⟩)) := R1.cell 0
  clear R1 hn1 A1
  go_wp2_with fail
  refine (V1.out _).mono ?_
  rintro e w' ⟨rfl, rfl⟩
  go_wp2_with fail
  refine (A2.out _ N1.out).mono ?_
  rintro e w2 ⟨rfl, hn2⟩
  have N2 := Lib.hid (N1.out.trans hn2)
  clear c1 hn2 A2 N1
  go_wp2_with fail
  refine (V2.out _).mono ?_
  rintro e w' ⟨rfl, rfl⟩
  go_wp2_with fail
  refine (LE.out _).mono ?_
  rintro e w' ⟨rfl, rfl⟩
  clear LE
  cases p
  · go_wp2_with fail
    go_ret
    exact ⟨rfl, N2.out⟩
  · cases q
    · go_wp2_with fail
      go_ret
      exact ⟨rfl, N2.out⟩
    · go_wp2_with fail
      refine (AE.out _).mono ?_
      rintro e w' ⟨rfl, rfl⟩
      go_wp2_with fail
      go_ret
      exact ⟨rfl, N2.out⟩
set_option maxHeartbeats 1000000 in
theorem way_fin (b i k j : Nat) (x y : Int) (w : World) (hA : At2 b i k j x y w) (u v : Int) (p q : Bool) (hu1 : -268435456 ≤ u) (hu2 : u ≤ 268435456) (hv1 : -268435456 ≤ v) (hv2 : v ≤ 268435456) (v1 : ∀ W, Calls Try.prog 113 #[.int .i32 x] W fun e w' => e = .returned (.tuple #[.int .i64 u, .bool p, .bool true]) ∧ W = w') (v2 : ∀ W, Calls Try.prog 113 #[.int .i32 y] W fun e w' => e = .returned (.tuple #[.int .i64 v, .bool q, .bool true]) ∧ W = w') (hs1 : -268435456 ≤ u + v) (hs2 : u + v ≤ 268435456) :
    Calls Try.prog 151 #[.agg #[.pointer (some ⟨b, 0, none⟩)], .int .i64 i, .int .i64 k, .int .i64 j] w fun e w' => e = .returned (.int .i32 (enc (u + v) (p && q))) ∧ New w w' := by
  have A1 := Lib.hid hA.1
  have A2 := Lib.hid hA.2
  have V1 := Lib.hid v1
  have V2 := Lib.hid v2
  have LE := Lib.hid (fun W => lessThan_any (u + v) hs1 hs2 W)
  have AE := Lib.hid (fun W => atMost_any (u + v) hs1 hs2 W)
  clear hs1 hs2
  clear hA v1 v2
  go_enter Try.func151, Try.ntmps151
  go_wp2_with fail
  refine (A1.out _ ((New.refl w).alloc _)).mono ?_
  rintro e w1 ⟨rfl, hn1⟩
  have R1 := hn1.row (Row.new_at w 196 [.pointer (some ⟨b, 0, none⟩)] rfl)
  have N1 := Lib.hid (((New.refl w).alloc _).trans hn1)
  have c1 : w1.cell? ⟨w.heap.size, 0, none⟩ = some (.pointer (some ⟨b, 0, none⟩)) := R1.cell 0
  clear R1 hn1 A1
  go_wp2_with fail
  refine (V1.out _).mono ?_
  rintro e w' ⟨rfl, rfl⟩
  go_wp2_with fail
  refine (A2.out _ N1.out).mono ?_
  rintro e w2 ⟨rfl, hn2⟩
  have N2 := Lib.hid (N1.out.trans hn2)
  clear c1 hn2 A2 N1
  go_wp2_with fail
  refine (V2.out _).mono ?_
  rintro e w' ⟨rfl, rfl⟩
  go_wp2_with fail
  refine (LE.out _).mono ?_
  rintro e w' ⟨rfl, rfl⟩
  clear LE
  cases p
  · go_wp2_with fail
    go_ret
    exact ⟨rfl, N2.out⟩
  · cases q
    · go_wp2_with fail
      go_ret
      exact ⟨rfl, N2.out⟩
    · go_wp2_with fail
      refine (AE.out _).mono ?_
      rintro e w' ⟨rfl, rfl⟩
      go_wp2_with fail
      go_ret
      exact ⟨rfl, N2.out⟩
theorem value_fin {x : Int} (h : Fin32 x) (w : World) : Calls Try.prog 113 #[.int .i32 x] w fun e w' => e = .returned (.tuple #[.int .i64 (x / 2), .bool (decide (x % 2 = 1)), .bool true]) ∧ w = w' := by
  obtain ⟨h2, h3⟩ := h
  have := value_any (x / 2) (decide (x % 2 = 1)) (by omega) (by omega) w
  rwa [enc_of] at this
theorem way_any (b : Nat) (z : Zn) (i k j : Nat) (w : World) (h : ZoneAt w b z) (hi : i ≤ z.n) (hk : k ≤ z.n) (hj : j ≤ z.n)
    (hx : gt z.Z (9 * i + k) = 2147483647 ∨ Fin32 (gt z.Z (9 * i + k))) (hy : gt z.Z (9 * k + j) = 2147483647 ∨ Fin32 (gt z.Z (9 * k + j))) :
    Calls Try.prog 151 #[.agg #[.pointer (some ⟨b, 0, none⟩)], .int .i64 i, .int .i64 k, .int .i64 j] w fun e w' => e = .returned (.int .i32 (wayI (gt z.Z (9 * i + k)) (gt z.Z (9 * k + j)))) ∧ New w w' := by
  have hA : At2 b i k j (gt z.Z (9 * i + k)) (gt z.Z (9 * k + j)) w := ⟨fun W hn => at_any b z i k W (h.new hn) hi hk, fun W hn => at_any b z k j W (h.new hn) hk hj⟩
  generalize gt z.Z (9 * i + k) = x at *
  generalize gt z.Z (9 * k + j) = y at *
  unfold wayI
  by_cases h1 : x = 2147483647
  · rw [if_pos (.inl h1)]
    subst h1
    by_cases h2 : y = 2147483647
    · subst h2; exact way_inf1 b i k j _ _ w hA value_inf 0 false false value_inf
    · exact way_inf1 b i k j _ _ w hA value_inf _ _ _ (value_fin (hy.resolve_left h2))
  · by_cases h2 : y = 2147483647
    · rw [if_pos (.inr h2)]
      subst h2
      exact way_inf2 b i k j _ _ w hA _ _ (value_fin (hx.resolve_left h1)) value_inf
    · rw [if_neg (by rintro (h | h); exact h1 h; exact h2 h)]
      have fx := hx.resolve_left h1
      have fy := hy.resolve_left h2
      obtain ⟨x1, x2⟩ := fx
      obtain ⟨y1, y2⟩ := fy
      by_cases h3 : x / 2 + y / 2 < -268435456 ∨ 268435456 < x / 2 + y / 2
      · rw [if_pos h3]
        exact way_err b i k j _ _ w hA _ _ _ _ (by omega) (by omega) (by omega) (by omega) (value_fin ⟨x1, x2⟩) (value_fin ⟨y1, y2⟩) h3
      · rw [if_neg h3]
        exact way_fin b i k j _ _ w hA _ _ _ _ (by omega) (by omega) (by omega) (by omega) (value_fin ⟨x1, x2⟩) (value_fin ⟨y1, y2⟩) (by omega) (by omega)
end Go.Proofs.Ytapfihlgemejiaa
-- reduce.Classes, plain: heads and classes of a zone's clocks.
namespace Go.Proofs.Ytapfihlgemejiaa

def cellN (Z : List Int) (i j : Nat) : Int := gt Z (9 * i + j)
/-- Is the difference of two clocks settled? -/
def tied (Z : List Int) (x h : Nat) : Bool := decide (wayI (cellN Z x h) (cellN Z h x) ≤ 1)
def firstTied (Z : List Int) (x : Nat) : Option Nat := (List.range x).find? (tied Z x)
/-- The heads of the first m clocks. -/
def headsTo (Z : List Int) : Nat → List Nat
  | 0 => []
  | m + 1 => headsTo Z m ++ [match firstTied Z m with
    | some h => (headsTo Z m).getD h 0
    | none => m]
theorem headsTo_length (Z : List Int) : ∀ m, (headsTo Z m).length = m
  | 0 => rfl
  | m + 1 => by simp [headsTo, headsTo_length Z m]
def headOf (Z : List Int) (x : Nat) : Nat := (headsTo Z (x + 1)).getD x 0
theorem headsTo_get (Z : List Int) {y m : Nat} (h : y < m) : (headsTo Z m).getD y 0 = headOf Z y := by
  induction m with
  | zero => omega
  | succ m ih =>
    by_cases h1 : y = m
    · subst h1; rfl
    · rw [← ih (by omega)]
      rw [List.getD_eq_getElem?_getD, List.getD_eq_getElem?_getD]
      show ((headsTo Z m ++ _)[y]?).getD 0 = _
      rw [List.getElem?_append_left (by rw [headsTo_length]; omega)]
theorem firstTied_lt {Z : List Int} {x h : Nat} (e : firstTied Z x = some h) : h < x := by
  have := List.mem_of_find?_eq_some e
  simpa using this
theorem firstTied_tied {Z : List Int} {x h : Nat} (e : firstTied Z x = some h) : tied Z x h = true := List.find?_some e
theorem firstTied_before {Z : List Int} {x : Nat} (h : Nat) (hx : h < x) (hb : ∀ g, g < h → tied Z x g = false) (ht : tied Z x h = true) : firstTied Z x = some h := by
  unfold firstTied
  rw [List.find?_eq_some_iff_getElem]
  refine ⟨ht, h, by simpa using hx, by simp, fun j hj => ?_⟩
  simp [hb j hj]
theorem firstTied_none {Z : List Int} {x : Nat} (hb : ∀ g, g < x → tied Z x g = false) : firstTied Z x = none := by
  unfold firstTied
  rw [List.find?_eq_none]
  intro g hg
  rw [hb g (by simpa using hg)]
  decide
theorem headOf_eq (Z : List Int) (x : Nat) : headOf Z x = match firstTied Z x with
    | some h => headOf Z h
    | none => x := by
  have e : headOf Z x = match firstTied Z x with
    | some h => (headsTo Z x).getD h 0
    | none => x := by
    unfold headOf
    rw [List.getD_eq_getElem?_getD]
    show ((headsTo Z x ++ [_])[x]?).getD 0 = _
    rw [List.getElem?_append_right (by rw [headsTo_length]; omega), headsTo_length]
    simp
  rw [e]
  cases h : firstTied Z x with
  | none => rfl
  | some g => exact headsTo_get Z (firstTied_lt h)
theorem headOf_le (Z : List Int) : ∀ m x, x ≤ m → headOf Z x ≤ x
  | 0, x, h => by
    have : x = 0 := by omega
    subst this
    rw [headOf_eq]
    have : firstTied Z 0 = none := rfl
    rw [this]; omega
  | m + 1, x, h => by
    rw [headOf_eq]
    cases e : firstTied Z x with
    | none => exact Nat.le_refl _
    | some g =>
      have h1 := firstTied_lt e
      have h2 := headOf_le Z m g (by omega)
      show headOf Z g ≤ x
      omega
/-- Of the first m clocks those of one head. -/
def memTo (Z : List Int) (m y : Nat) : List Nat := (List.range m).filter fun x => decide (headOf Z x = y)
theorem memTo_succ (Z : List Int) (m y : Nat) : memTo Z (m + 1) y = memTo Z m y ++ if headOf Z m = y then [m] else [] := by
  unfold memTo
  rw [List.range_succ, List.filter_append]
  congr 1
  by_cases h : headOf Z m = y <;> simp [h]
theorem memTo_length (Z : List Int) (m y : Nat) : (memTo Z m y).length ≤ m := by
  unfold memTo
  exact Nat.le_trans (List.length_filter_le _ _) (by simp)
theorem memTo_nil (Z : List Int) {m y : Nat} (h : m ≤ y) : memTo Z m y = [] := by
  unfold memTo
  rw [List.filter_eq_nil_iff]
  intro x hx
  have h1 := headOf_le Z x x (Nat.le_refl _)
  have h2 : x < m := by simpa using hx
  simp
  omega
/-- The classes of a zone of n clocks. -/
def classesL (Z : List Int) (n : Nat) : List (List Nat) := ((List.range (n + 1)).map (memTo Z (n + 1))).filter fun l => !l.isEmpty
end Go.Proofs.Ytapfihlgemejiaa
