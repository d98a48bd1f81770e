/- reduce.Classes, plain: heads and classes of a zone's clocks. -/
import Derived.Test.YtapfihlgemejiaaR0
namespace Go.Proofs.Ytapfihlgemejiaa

def cellN (Z : List Int) (i j : Nat) : Int := gt Z (9 * i + j)
/-- Is the difference of two clocks settled? -/
def tied (Z : List Int) (x h : Nat) : Bool := decide (wayI (cellN Z x h) (cellN Z h x) ≤ 1)
def firstTied (Z : List Int) (x : Nat) : Option Nat := (List.range x).find? (tied Z x)
/-- The heads of the first m clocks. -/
def headsTo (Z : List Int) : Nat → List Nat
  | 0 => []
  | m + 1 => headsTo Z m ++ [match firstTied Z m with
    | some h => (headsTo Z m).getD h 0
    | none => m]
theorem headsTo_length (Z : List Int) : ∀ m, (headsTo Z m).length = m
  | 0 => rfl
  | m + 1 => by simp [headsTo, headsTo_length Z m]
def headOf (Z : List Int) (x : Nat) : Nat := (headsTo Z (x + 1)).getD x 0
theorem headsTo_get (Z : List Int) {y m : Nat} (h : y < m) : (headsTo Z m).getD y 0 = headOf Z y := by
  induction m with
  | zero => omega
  | succ m ih =>
    by_cases h1 : y = m
    · subst h1; rfl
    · rw [← ih (by omega)]
      rw [List.getD_eq_getElem?_getD, List.getD_eq_getElem?_getD]
      show ((headsTo Z m ++ _)[y]?).getD 0 = _
      rw [List.getElem?_append_left (by rw [headsTo_length]; omega)]
theorem firstTied_lt {Z : List Int} {x h : Nat} (e : firstTied Z x = some h) : h < x := by
  have := List.mem_of_find?_eq_some e
  simpa using this
theorem firstTied_tied {Z : List Int} {x h : Nat} (e : firstTied Z x = some h) : tied Z x h = true := List.find?_some e
theorem firstTied_before {Z : List Int} {x : Nat} (h : Nat) (hx : h < x) (hb : ∀ g, g < h → tied Z x g = false) (ht : tied Z x h = true) : firstTied Z x = some h := by
  unfold firstTied
  rw [List.find?_eq_some_iff_getElem]
  refine ⟨ht, h, by simpa using hx, by simp, fun j hj => ?_⟩
  simp [hb j hj]
theorem firstTied_none {Z : List Int} {x : Nat} (hb : ∀ g, g < x → tied Z x g = false) : firstTied Z x = none := by
  unfold firstTied
  rw [List.find?_eq_none]
  intro g hg
  rw [hb g (by simpa using hg)]
  decide
theorem headOf_eq (Z : List Int) (x : Nat) : headOf Z x = match firstTied Z x with
    | some h => headOf Z h
    | none => x := by
  have e : headOf Z x = match firstTied Z x with
    | some h => (headsTo Z x).getD h 0
    | none => x := by
    unfold headOf
    rw [List.getD_eq_getElem?_getD]
    show ((headsTo Z x ++ [_])[x]?).getD 0 = _
    rw [List.getElem?_append_right (by rw [headsTo_length]; omega), headsTo_length]
    simp
  rw [e]
  cases h : firstTied Z x with
  | none => rfl
  | some g => exact headsTo_get Z (firstTied_lt h)
theorem headOf_le (Z : List Int) : ∀ m x, x ≤ m → headOf Z x ≤ x
  | 0, x, h => by
    have : x = 0 := by omega
    subst this
    rw [headOf_eq]
    have : firstTied Z 0 = none := rfl
    rw [this]; omega
  | m + 1, x, h => by
    rw [headOf_eq]
    cases e : firstTied Z x with
    | none => exact Nat.le_refl _
    | some g =>
      have h1 := firstTied_lt e
      have h2 := headOf_le Z m g (by omega)
      show headOf Z g ≤ x
      omega
/-- Of the first m clocks those of one head. -/
def memTo (Z : List Int) (m y : Nat) : List Nat := (List.range m).filter fun x => decide (headOf Z x = y)
theorem memTo_succ (Z : List Int) (m y : Nat) : memTo Z (m + 1) y = memTo Z m y ++ if headOf Z m = y then [m] else [] := by
  unfold memTo
  rw [List.range_succ, List.filter_append]
  congr 1
  by_cases h : headOf Z m = y <;> simp [h]
theorem memTo_length (Z : List Int) (m y : Nat) : (memTo Z m y).length ≤ m := by
  unfold memTo
  exact Nat.le_trans (List.length_filter_le _ _) (by simp)
theorem memTo_nil (Z : List Int) {m y : Nat} (h : m ≤ y) : memTo Z m y = [] := by
  unfold memTo
  rw [List.filter_eq_nil_iff]
  intro x hx
  have h1 := headOf_le Z x x (Nat.le_refl _)
  have h2 : x < m := by simpa using hx
  simp
  omega
/-- The classes of a zone of n clocks. -/
def classesL (Z : List Int) (n : Nat) : List (List Nat) := ((List.range (n + 1)).map (memTo Z (n + 1))).filter fun l => !l.isEmpty
end Go.Proofs.Ytapfihlgemejiaa
