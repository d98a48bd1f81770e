/- ReduceClasses. -/
import Derived.Test.YtapfihlgemejiaaVC1
import Derived.Test.YtapfihlgemejiaaVP4
import Derived.Test.YtapfihlgemejiaaVC0
namespace Go.Proofs.Ytapfihlgemejiaa
open Go.RowKit Go.Proofs.YtapfihlgemejiaaW.PrintLast
theorem ofL_row0 (n : Nat) (hn : n ≤ 8) (cells : List Int) (L : List Int) (h : ofL n cells = some L) : ∀ j, j ≤ n → gt L j ≤ 1 := by
  have := lpO_inv (fun L => L.length = 81 ∧ ∀ j, j ≤ n → gt L j ≤ 1) _ cells.length _ L ⟨openL_length n, fun j hj => by
    rw [show j = 9 * 0 + j by omega, open_form n hn 0 j (by omega), if_pos ⟨by omega, hj⟩, if_pos (.inr rfl)]; omega⟩ (fun i a b _ ha hb => by
    split at hb
    · cases hb
      refine ⟨by rw [keepL_length, ha.1], fun j hj => ?_⟩
      unfold keepL
      split
      · exact ha.2 j hj
      · by_cases hlt : 9 * (i / (n + 1)) + i % (n + 1) < a.length
        · rw [gt_st _ _ _ _ hlt]
          split
          · rename_i e
            have := mn_le (gt a (9 * (i / (n + 1)) + i % (n + 1))) (gt cells i)
            have h2 := ha.2 j hj
            rw [e] at h2; omega
          · exact ha.2 j hj
        · have : st a (9 * (i / (n + 1)) + i % (n + 1)) (mn (gt a (9 * (i / (n + 1)) + i % (n + 1))) (gt cells i)) = a := by unfold st; exact List.set_eq_of_length_le (by omega)
          rw [this]; exact ha.2 j hj
    · cases hb) h
  exact this.2
theorem ofZ_good {n : Int} {cells : List Int} {Z : List Int} (h : ofZ n cells = .ok Z) : ∃ k : Nat, n = k ∧ k ≤ 8 ∧ cells.length = (k + 1) * (k + 1) ∧ ZGood ⟨k, Z⟩ ∧ Z.length = 81 := by
  unfold ofZ at h
  split at h
  · cases h
  · rename_i hf
    have hf : fewB n = true := by simpa using hf
    unfold fewB at hf
    simp at hf
    split at h
    · cases h
    · rename_i hl
      obtain ⟨k, rfl⟩ := Int.eq_ofNat_of_zero_le hf.1
      have hk : k ≤ 8 := by omega
      cases hq : ofL k cells with
      | none => rw [Int.toNat_natCast, hq] at h; cases h
      | some L =>
        rw [Int.toNat_natCast, hq] at h
        have h : zoneOf k L = .ok Z := h
        have hs := ofL_start k hk cells cells.length L hq
        have hz := zoneOf_from hk hs (ofL_row0 k hk cells L hq) h
        refine ⟨k, rfl, hk, ?_, hz.good hk, hz.len⟩
        have : (cells.length : Int) = ((k : Int) + 1) * ((k : Int) + 1) := by simpa using hl
        exact_mod_cast this
end Go.Proofs.Ytapfihlgemejiaa
