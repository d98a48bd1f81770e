/- Plain zones: a number of clocks and 81 cells; which includes which. -/
import Derived.Test.YtapfihlgemejiaaA0
namespace Go.Proofs.Ytapfihlgemejiaa

structure Zn where
  n : Nat
  Z : List Int

def emptyB (Z : List Int) : Bool := decide (gt Z 0 < 1)
/-- Does the first one include the second? -/
def inclB (a b : Zn) : Bool := decide (a.n = b.n) && (emptyB b.Z || (List.range (a.n + 1)).all fun i => (List.range (a.n + 1)).all fun j => decide (gt b.Z (9 * i + j) ≤ gt a.Z (9 * i + j)))
theorem inclB_iff (a b : Zn) : inclB a b = true ↔ a.n = b.n ∧ (emptyB b.Z = true ∨ ∀ i j, i ≤ a.n → j ≤ a.n → gt b.Z (9 * i + j) ≤ gt a.Z (9 * i + j)) := by
  unfold inclB
  simp only [Bool.and_eq_true, Bool.or_eq_true, decide_eq_true_eq, List.all_eq_true, List.mem_range]
  constructor
  · rintro ⟨h1, h2⟩
    refine ⟨h1, ?_⟩
    rcases h2 with h2 | h2
    · exact .inl h2
    · exact .inr fun i j hi hj => h2 i (by omega) j (by omega)
  · rintro ⟨h1, h2⟩
    refine ⟨h1, ?_⟩
    rcases h2 with h2 | h2
    · exact .inl h2
    · exact .inr fun i hi j hj => h2 i j (by omega) (by omega)
theorem inclB_dim {a b : Zn} (h : a.n ≠ b.n) : inclB a b = false := by
  cases hq : inclB a b with
  | false => rfl
  | true => exact absurd ((inclB_iff a b).1 hq).1 h
theorem inclB_empty {a b : Zn} (h : a.n = b.n) (he : emptyB b.Z = true) : inclB a b = true := (inclB_iff a b).2 ⟨h, .inl he⟩
theorem inclB_all {a b : Zn} (h : a.n = b.n) (he : ∀ i j, i ≤ a.n → j ≤ a.n → gt b.Z (9 * i + j) ≤ gt a.Z (9 * i + j)) : inclB a b = true := (inclB_iff a b).2 ⟨h, .inr he⟩
theorem inclB_not {a b : Zn} {i j : Nat} (he : emptyB b.Z = false) (hi : i ≤ a.n) (hj : j ≤ a.n) (h : gt a.Z (9 * i + j) < gt b.Z (9 * i + j)) : inclB a b = false := by
  cases hq : inclB a b with
  | false => rfl
  | true =>
    rcases ((inclB_iff a b).1 hq).2 with h2 | h2
    · rw [he] at h2; cases h2
    · have := h2 i j hi hj; omega
/-- The same one? -/
def equalB (a b : Zn) : Bool := decide (a.n = b.n) && decide (a.Z = b.Z)
end Go.Proofs.Ytapfihlgemejiaa
