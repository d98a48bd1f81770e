/- Stores, plain: two runs of the same calls give stores that are alike but for addresses. -/
import Derived.Test.YtapfihlgemejiaaA4
namespace Go.Proofs.Ytapfihlgemejiaa

/-- An entry without its addresses. -/
def bareE (e : Ent) : Ent := { e with ka := none, kc := 0, zb := 0 }
def bareS (s : Sto) : Sto := { s with ents := s.ents.map bareE }
theorem entAt_bare (l : List Ent) (i : Nat) : entAt (l.map bareE) i = bareE (entAt l i) := by
  unfold entAt
  rw [List.getD_eq_getElem?_getD, List.getD_eq_getElem?_getD, List.getElem?_map]
  cases l[i]? <;> rfl
theorem under_bare (l : List Ent) (key : List Int) (i : Nat) : under (l.map bareE) key i = under l key i := by
  unfold under; rw [entAt_bare]; rfl
theorem idxs_bare (l : List Ent) (key : List Int) : idxs (l.map bareE) key = idxs l key := by
  unfold idxs
  rw [List.length_map]
  exact List.filter_congr (fun i _ => under_bare l key i)
theorem firstIn_bare (l : List Ent) (z : Zn) : ∀ r : List Nat, firstIn (l.map bareE) z r = firstIn l z r
  | [] => rfl
  | i :: r => by
    unfold firstIn
    rw [entAt_bare, firstIn_bare l z r]; rfl
theorem coversS_bare (l : List Ent) (key : List Int) (z : Zn) : coversS (l.map bareE) key z = coversS l key z := by
  unfold coversS; rw [idxs_bare, firstIn_bare]
theorem waitS_bare (s : Sto) : waitS (bareS s) = waitS s := by
  have h : ((List.range (s.ents.map bareE).length).filter fun i => waitsB (entAt (s.ents.map bareE) i)) = (List.range s.ents.length).filter fun i => waitsB (entAt s.ents i) := by
    rw [List.length_map]
    exact List.filter_congr (fun i _ => by rw [entAt_bare]; rfl)
  unfold waitS
  show (if s.last then _ else _) = _
  simp only [bareS, h]
theorem modify_bare (l : List Ent) (i : Nat) (f : Ent → Ent) (hf : ∀ e, bareE (f e) = f (bareE e)) : (l.modify i f).map bareE = (l.map bareE).modify i f := by
  apply List.ext_getElem?
  intro j
  rw [List.getElem?_map, List.getElem?_modify, List.getElem?_modify, List.getElem?_map]
  cases l[j]? with
  | none => rfl
  | some e =>
    by_cases h : i = j
    · subst h; simp [hf]
    · simp [h]
theorem dropAll_bare (d : List Nat) : ∀ l : List Ent, (dropAll l d).map bareE = dropAll (l.map bareE) d := by
  unfold dropAll
  induction d with
  | nil => intro l; rfl
  | cons i d ih =>
    intro l
    rw [List.foldl_cons, List.foldl_cons, ih, modify_bare l i goneE (fun _ => rfl)]
theorem dropped_bare (l : List Ent) (key : List Int) (z : Zn) : dropped (l.map bareE) key z = dropped l key z := by
  unfold dropped
  rw [idxs_bare]
  exact List.filter_congr (fun i _ => by rw [entAt_bare]; rfl)
theorem putS_bare (s : Sto) (key : List Int) (z : Zn) (ka : Option (Nat × Nat)) (kc zb : Nat) : bareS (putS s key z ka kc zb) = putS (bareS s) key z none 0 0 := by
  unfold putS bareS
  simp only [List.map_append, List.map_cons, List.map_nil, dropAll_bare, dropped_bare]
  rfl
theorem takeS_bare (s : Sto) (i : Nat) : bareS (takeS s i) = takeS (bareS s) i := by
  unfold takeS bareS
  simp only [modify_bare s.ents i (takeE s.tk) (fun _ => rfl)]
/-- What a step makes of a store, addresses apart. -/
def doS (s : Sto) (x : Stp) : Sto :=
  if x.kind = 0 then
    match zoneS x with
    | none => s
    | some z => if 0 ≤ coversS s.ents x.key z then s else if 4096 ≤ s.ents.length then s else putS s x.key z none 0 0
  else if x.kind = 1 then
    match waitS s with
    | [] => s
    | i :: _ => takeS s i
  else s
theorem did_bare {s s' : Sto} {x : Stp} (h : Did s x s') : bareS s' = doS (bareS s) x := by
  have hc : ∀ z, coversS (bareS s).ents x.key z = coversS s.ents x.key z := fun z => coversS_bare _ _ _
  have hl : (bareS s).ents.length = s.ents.length := List.length_map _
  unfold doS
  cases h with
  | none h h1 =>
    by_cases h0 : x.kind = 0
    · rw [if_pos h0]
      rcases h with h | h
      · exact absurd h0 h
      · rw [h]
    · rw [if_neg h0]
      by_cases h2 : x.kind = 1
      · rw [if_pos h2, waitS_bare]
        rcases h1 with h1 | h1
        · exact absurd h2 h1
        · rw [h1]
      · rw [if_neg h2]
  | covered z h hz h3 => rw [if_pos h, hz]; simp only [hc]; rw [if_pos h3]
  | full z h hz h3 h4 => rw [if_pos h, hz]; simp only [hc, hl]; rw [if_neg (by omega), if_pos h4]
  | put z h hz h3 h4 ka kc zb => rw [if_pos h, hz]; simp only [hc, hl]; rw [if_neg (by omega), if_neg (by omega)]; exact putS_bare s x.key z ka kc zb
  | take i r h hw => rw [if_neg (by omega), if_pos h, waitS_bare, hw]; exact takeS_bare s i
theorem ran_bare {last : Bool} {l : List Stp} {s : Sto} (h : Ran last l s) : bareS s = l.foldl doS (newS last) := by
  induction h with
  | nil => rfl
  | snoc _ hd ih => rw [List.foldl_append, ← ih]; exact did_bare hd
/-- Two runs are alike. -/
theorem ran_same {last : Bool} {l : List Stp} {s t : Sto} (hs : Ran last l s) (ht : Ran last l t) : s.ents.length = t.ents.length ∧ waitS s = waitS t ∧ ∀ i, (entAt s.ents i).key = (entAt t.ents i).key := by
  have e : bareS s = bareS t := (ran_bare hs).trans (ran_bare ht).symm
  have e2 : s.ents.map bareE = t.ents.map bareE := congrArg Sto.ents e
  refine ⟨by simpa using congrArg List.length e2, by rw [← waitS_bare s, e, waitS_bare], fun i => ?_⟩
  have := congrArg (fun l => (entAt l i).key) e2
  simp only [entAt_bare] at this
  exact this
end Go.Proofs.Ytapfihlgemejiaa
