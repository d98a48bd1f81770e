/- What waits and what was taken, plain. -/
import Derived.Test.YtapfihlgemejiaaA4
namespace Go.Proofs.Ytapfihlgemejiaa

theorem waitsB_takeS {s : Sto} {i : Nat} (hi : i < s.ents.length) (ht : 0 ≤ s.tk) (j : Nat) : waitsB (entAt (takeS s i).ents j) = (waitsB (entAt s.ents j) && (j != i)) := by
  unfold takeS
  simp only
  rw [entAt_modify _ _ _ _ hi]
  by_cases h : j = i
  · subst h
    have : ¬ s.tk < 0 := by omega
    simp [waitsB, takeE, this]
  · simp [h]
theorem waitS_takeS {s : Sto} {i : Nat} (hi : i < s.ents.length) (ht : 0 ≤ s.tk) : waitS (takeS s i) = (waitS s).filter (· != i) := by
  have h : (List.range (takeS s i).ents.length).filter (fun j => waitsB (entAt (takeS s i).ents j)) = ((List.range s.ents.length).filter fun j => waitsB (entAt s.ents j)).filter (· != i) := by
    rw [takeS_length, List.filter_filter]
    apply List.filter_congr
    intro j _
    rw [waitsB_takeS hi ht, Bool.and_comm]
  unfold waitS
  rw [h]
  have hl : (takeS s i).last = s.last := rfl
  rw [hl]
  split
  · rw [List.filter_reverse]
  · rfl
theorem waitS_nodup (s : Sto) : (waitS s).Nodup := by
  unfold waitS
  split
  · have h : ((List.range s.ents.length).filter fun i => waitsB (entAt s.ents i)).Nodup := List.nodup_range.sublist List.filter_sublist
    unfold List.Nodup at h ⊢
    rw [List.pairwise_reverse]
    exact h.imp fun h e => h e.symm
  · exact List.nodup_range.sublist List.filter_sublist
theorem waitS_next {s : Sto} {i : Nat} {r : List Nat} (ht : 0 ≤ s.tk) (h : waitS s = i :: r) : waitS (takeS s i) = r := by
  rw [waitS_takeS (waitS_head h).1 ht, h]
  have hn := waitS_nodup s
  rw [h, List.nodup_cons] at hn
  rw [List.filter_cons]
  simp only [bne_self_eq_false, Bool.false_eq_true, if_false]
  rw [List.filter_eq_self]
  intro a ha
  simp only [bne_iff_ne, ne_eq]
  intro e
  subst e
  exact hn.1 ha
theorem waitS_none {s : Sto} (h : waitS s = []) (i : Nat) (hi : i < s.ents.length) : waitsB (entAt s.ents i) = false := by
  have hm : i ∉ waitS s := by rw [h]; simp
  cases hq : waitsB (entAt s.ents i) with
  | false => rfl
  | true =>
    refine absurd ?_ hm
    unfold waitS
    split
    · rw [List.mem_reverse, List.mem_filter]; exact ⟨List.mem_range.2 hi, hq⟩
    · rw [List.mem_filter]; exact ⟨List.mem_range.2 hi, hq⟩

/-- The numbers at which entries were taken. -/
structure Tk (s : Sto) : Prop where
  pos : 0 ≤ s.tk
  each : ∀ i, i < s.ents.length → -1 ≤ (entAt s.ents i).taken ∧ (entAt s.ents i).taken ≤ s.tk - 1
  top : 0 < s.tk → ∃ i, i < s.ents.length ∧ (entAt s.ents i).taken = s.tk - 1

theorem tk_take {s : Sto} {i : Nat} (h : Tk s) (hi : i < s.ents.length) : Tk (takeS s i) := by
  have hp := h.pos
  have e : ∀ j, (entAt (takeS s i).ents j).taken = if j = i then s.tk else (entAt s.ents j).taken := fun j => by
    unfold takeS
    simp only
    rw [entAt_modify _ _ _ _ hi]
    split <;> rfl
  have ht : (takeS s i).tk = s.tk + 1 := rfl
  refine ⟨by rw [ht]; omega, fun j hj => ?_, fun _ => ⟨i, by rw [takeS_length]; exact hi, by rw [e, if_pos rfl, ht]; omega⟩⟩
  rw [takeS_length] at hj
  have := h.each j hj
  rw [e, ht]
  split <;> omega
theorem putS_taken {s : Sto} {key : List Int} {z : Zn} {ka : Option (Nat × Nat)} {kc zb : Nat} {i : Nat} (hi : i < s.ents.length) :
    (entAt (putS s key z ka kc zb).ents i).taken = (entAt s.ents i).taken := by
  rw [putS_old hi]
  split <;> rfl
theorem tk_put {s : Sto} (h : Tk s) (key : List Int) (z : Zn) (ka : Option (Nat × Nat)) (kc zb : Nat) : Tk (putS s key z ka kc zb) := by
  have ht : (putS s key z ka kc zb).tk = s.tk := rfl
  refine ⟨by rw [ht]; exact h.pos, fun i hi => ?_, fun h0 => ?_⟩
  · rw [putS_length] at hi
    rw [ht]
    by_cases h1 : i < s.ents.length
    · rw [putS_taken h1]; exact h.each i h1
    · have : i = s.ents.length := by omega
      subst this
      rw [putS_new]
      have := h.pos
      exact ⟨Int.le_refl _, by simp only; omega⟩
  · rw [ht] at h0 ⊢
    obtain ⟨i, hi, he⟩ := h.top h0
    exact ⟨i, by rw [putS_length]; omega, by rw [putS_taken hi]; exact he⟩
theorem tk_ran {last : Bool} {l : List Stp} {s : Sto} (h : Ran last l s) : Tk s := by
  induction h with
  | nil => exact ⟨Int.le_refl _, fun i hi => by simp [newS] at hi, fun h => by simp [newS] at h⟩
  | snoc _ hd ih =>
    cases hd with
    | none => exact ih
    | covered => exact ih
    | full => exact ih
    | put z _ _ _ _ ka kc zb => exact tk_put ih _ z ka kc zb
    | take i r _ hw => exact tk_take ih (waitS_head hw).1

/-- The greatest of the first k numbers; -1: none. -/
def mostS (s : Sto) : Nat → Int
  | 0 => -1
  | k + 1 => if mostS s k < (entAt s.ents k).taken then (entAt s.ents k).taken else mostS s k
theorem mostS_le {s : Sto} {m : Int} (hm : -1 ≤ m) : ∀ k, (∀ i, i < k → (entAt s.ents i).taken ≤ m) → mostS s k ≤ m
  | 0, _ => hm
  | k + 1, h => by
    unfold mostS
    split
    · exact h k (by omega)
    · exact mostS_le hm k fun i hi => h i (by omega)
theorem mostS_ge {s : Sto} : ∀ k, -1 ≤ mostS s k ∧ ∀ i, i < k → (entAt s.ents i).taken ≤ mostS s k
  | 0 => ⟨Int.le_refl _, fun i hi => by omega⟩
  | k + 1 => by
    obtain ⟨h1, h2⟩ := mostS_ge (s := s) k
    unfold mostS
    split
    · rename_i h
      refine ⟨by omega, fun i hi => ?_⟩
      by_cases h3 : i < k
      · have := h2 i h3; omega
      · have : i = k := by omega
        subst this; omega
    · rename_i h
      refine ⟨h1, fun i hi => ?_⟩
      by_cases h3 : i < k
      · exact h2 i h3
      · have : i = k := by omega
        subst this; omega
theorem mostS_all {s : Sto} (h : Tk s) : mostS s s.ents.length = s.tk - 1 := by
  have hp := h.pos
  have h1 : mostS s s.ents.length ≤ s.tk - 1 := mostS_le (by omega) _ fun i hi => (h.each i hi).2
  obtain ⟨h2, h3⟩ := mostS_ge (s := s) s.ents.length
  by_cases h0 : 0 < s.tk
  · obtain ⟨i, hi, he⟩ := h.top h0
    have := h3 i hi
    omega
  · omega
theorem waits_taken {s : Sto} (h : Tk s) {i : Nat} (hi : i < s.ents.length) (hw : waitsB (entAt s.ents i) = true) : (entAt s.ents i).taken = -1 ∧ (entAt s.ents i).gone = false := by
  unfold waitsB at hw
  simp only [Bool.and_eq_true, Bool.not_eq_true', decide_eq_true_eq] at hw
  have := h.each i hi
  exact ⟨by omega, hw.1⟩
end Go.Proofs.Ytapfihlgemejiaa
