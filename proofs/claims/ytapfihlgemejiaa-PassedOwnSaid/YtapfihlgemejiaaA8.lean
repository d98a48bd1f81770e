/- Stores, plain: each entry's key is a step's. -/
import Derived.Test.YtapfihlgemejiaaA7
namespace Go.Proofs.Ytapfihlgemejiaa
theorem mem_modify {l : List Ent} {i : Nat} {f : Ent → Ent} {e : Ent} (h : e ∈ l.modify i f) (hf : ∀ e, (f e).key = e.key) : ∃ e' ∈ l, e.key = e'.key := by
  obtain ⟨j, hj⟩ := List.mem_iff_getElem?.1 h
  rw [List.getElem?_modify] at hj
  cases hl : l[j]? with
  | none => rw [hl] at hj; simp at hj
  | some e0 =>
    rw [hl] at hj
    refine ⟨e0, List.mem_of_getElem? hl, ?_⟩
    by_cases hij : i = j
    · simp [hij] at hj; rw [← hj, hf]
    · simp [hij] at hj; rw [← hj]
theorem mem_dropAll (d : List Nat) : ∀ {l : List Ent} {e : Ent}, e ∈ dropAll l d → ∃ e' ∈ l, e.key = e'.key := by
  induction d with
  | nil => intro l e h; exact ⟨e, h, rfl⟩
  | cons i d ih =>
    intro l e h
    obtain ⟨e1, h1, k1⟩ := ih (l := l.modify i goneE) (e := e) h
    obtain ⟨e2, h2, k2⟩ := mem_modify h1 (fun _ => rfl)
    exact ⟨e2, h2, k1.trans k2⟩
theorem ran_keys {last : Bool} {l : List Stp} {s : Sto} (h : Ran last l s) : ∀ e ∈ s.ents, ∃ x ∈ l, e.key = x.key := by
  induction h with
  | nil => intro e h; cases h
  | snoc _ hd ih =>
    rename_i l s s' x _
    have old : ∀ e ∈ s.ents, ∃ y ∈ l ++ [x], e.key = y.key := fun e he => by
      obtain ⟨y, hy, hk⟩ := ih e he
      exact ⟨y, List.mem_append_left _ hy, hk⟩
    cases hd with
    | none _ _ => exact old
    | covered _ _ _ _ => exact old
    | full _ _ _ _ _ => exact old
    | put z h hz hc hl ka kc zb =>
      intro e he
      have he : e ∈ dropAll s.ents (dropped s.ents x.key z) ++ [{ key := x.key, zone := z, taken := -1, gone := false, ka := ka, kc := kc, zb := zb }] := he
      rcases List.mem_append.1 he with h1 | h1
      · obtain ⟨e', h2, hk⟩ := mem_dropAll _ h1
        obtain ⟨y, hy, hk2⟩ := old e' h2
        exact ⟨y, hy, hk.trans hk2⟩
      · simp at h1
        subst h1
        exact ⟨x, List.mem_append_right _ (List.mem_singleton.2 rfl), rfl⟩
    | take i r h hw =>
      intro e he
      obtain ⟨e', h2, hk⟩ := mem_modify (show e ∈ s.ents.modify i (takeE s.tk) from he) (fun _ => rfl)
      obtain ⟨y, hy, hk2⟩ := old e' h2
      exact ⟨y, hy, hk.trans hk2⟩
theorem ran_key_len {last : Bool} {l : List Stp} {s : Sto} (h : Ran last l s) {m : Nat} (hl : ∀ x ∈ l, x.key.length ≤ m) (i : Nat) : (entAt s.ents i).key.length ≤ m := by
  by_cases hi : i < s.ents.length
  · obtain ⟨x, hx, hk⟩ := ran_keys h (entAt s.ents i) (by rw [entAt_eq hi]; exact List.getElem_mem hi)
    rw [hk]; exact hl x hx
  · have : entAt s.ents i = noEnt := by unfold entAt; rw [List.getD_eq_getElem?_getD, List.getElem?_eq_none (by omega)]; rfl
    rw [this]; exact Nat.zero_le _
end Go.Proofs.Ytapfihlgemejiaa
