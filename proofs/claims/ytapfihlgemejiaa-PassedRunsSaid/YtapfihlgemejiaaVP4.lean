/- Plain: the few bounds of a zone are no more than any bounds that make it. | Plain: the classes gone through one by one, each clock marked by its class. | Plain: the few bounds of a zone make it. | Plain: the few bounds generate the zone; without one of them it is greater. -/
import Derived.Test.YtapfihlgemejiaaVP0
import Derived.Test.YtapfihlgemejiaaVR3
import Derived.Test.YtapfihlgemejiaaVR0
import Derived.Test.YtapfihlgemejiaaVO0
import Derived.Test.YtapfihlgemejiaaVM4
import Derived.Test.YtapfihlgemejiaaVM3
import Derived.Test.YtapfihlgemejiaaVD3
import Derived.Laws.EntriesVeiled
import Derived.Deep.RegionLaw
import Derived.Deep.CutBlock
namespace Go.Proofs.Ytapfihlgemejiaa
section
variable {n : Nat} {Z L : List Int} {l : List Lim}
end
theorem zeros_empty : emptyB zeros = true := by decide
theorem ZFrom.len {n : Nat} {L Z : List Int} (h : ZFrom n L Z) : Z.length = 81 := by
  rcases h with ⟨_, rfl⟩ | ⟨h, _⟩
  · exact zeros_length
  · exact h.len
end Go.Proofs.Ytapfihlgemejiaa
namespace Go.Proofs.Ytapfihlgemejiaa
section
variable {n : Nat} {Z : List Int}
end
end Go.Proofs.Ytapfihlgemejiaa
namespace Go.Proofs.Ytapfihlgemejiaa
theorem lpO_stuck {α : Type} (P : α → Prop) (f : Nat → α → Option α) : ∀ (m : Nat) (a : α), P a → (∀ i a b, i < m → P a → f i a = some b → P b) → lpO f m a = none → ∃ i b, i < m ∧ P b ∧ f i b = none
  | 0, a, _, _, h => by cases h
  | m + 1, a, h0, hs, h => by
    rw [lpO_succ] at h
    cases hq : lpO f m a with
    | none =>
      obtain ⟨i, b, hi, hb, e⟩ := lpO_stuck P f m a h0 (fun i a b hi => hs i a b (by omega)) hq
      exact ⟨i, b, by omega, hb, e⟩
    | some b =>
      rw [hq] at h
      exact ⟨m, b, by omega, lpO_inv P f m a b h0 (fun i a b hi => hs i a b (by omega)) hq, h⟩
theorem zone_stuck {n : Nat} {A : List Int} (h : zoneL n A = none) : ∃ p q, p ≤ n ∧ q ≤ n ∧ gt A (9 * p + q) ≠ NONE ∧ (gt A (9 * p + q) < -536870912 ∨ 536870913 < gt A (9 * p + q)) := by
  obtain ⟨i, M, hi, _, h1⟩ := lpO_stuck (fun _ => True) _ (n + 1) zeros trivial (fun _ _ _ _ _ _ => trivial) h
  obtain ⟨j, N, hj, _, h2⟩ := lpO_stuck (fun _ => True) _ (n + 1) M trivial (fun _ _ _ _ _ _ => trivial) h1
  refine ⟨i, j, by omega, by omega, ?_⟩
  unfold outL at h2
  split at h2
  · cases h2
  · rename_i h3
    split at h2
    · rename_i h4; exact ⟨h3, h4⟩
    · cases h2

section
variable {n : Nat} {Z L : List Int}
end
end Go.Proofs.Ytapfihlgemejiaa
namespace Go.Proofs.Ytapfihlgemejiaa
section
variable {n : Nat} {Z L : List Int}
end
end Go.Proofs.Ytapfihlgemejiaa
