/- Two stores that hold the same entries, each in its own memory. -/
import Derived.Test.YtapfihlgemejiaaVA4
namespace Go.Proofs.Ytapfihlgemejiaa
/-- An entry without where it lies. -/
def core (e : Ent) : Ent := { e with ka := none, kc := 0, zb := 0 }
structure Twin (s r : Sto) : Prop where
  last : s.last = r.last
  tk : s.tk = r.tk
  ents : s.ents.map core = r.ents.map core
theorem entAt_core (l : List Ent) (i : Nat) : entAt (l.map core) i = core (entAt l i) := by
  unfold entAt
  rw [List.getD_eq_getElem?_getD, List.getElem?_map, List.getD_eq_getElem?_getD]
  cases l[i]? <;> rfl
theorem under_core (l : List Ent) (key : List Int) (i : Nat) : under (l.map core) key i = under l key i := by
  unfold under; rw [entAt_core]; rfl
theorem idxs_core (l : List Ent) (key : List Int) : idxs (l.map core) key = idxs l key := by
  unfold idxs
  rw [List.length_map]
  exact List.filter_congr fun i _ => under_core l key i
theorem firstIn_core (l : List Ent) (z : Zn) (r : List Nat) : firstIn (l.map core) z r = firstIn l z r := by
  induction r with
  | nil => rfl
  | cons i r ih => unfold firstIn; rw [entAt_core, ih]; rfl
theorem coversS_core (l : List Ent) (key : List Int) (z : Zn) : coversS (l.map core) key z = coversS l key z := by
  unfold coversS; rw [idxs_core, firstIn_core]
theorem dropped_core (l : List Ent) (key : List Int) (z : Zn) : dropped (l.map core) key z = dropped l key z := by
  unfold dropped
  rw [idxs_core]
  exact List.filter_congr fun i _ => by rw [entAt_core]; rfl
theorem modify_core (l : List Ent) (i : Nat) (f : Ent → Ent) (hf : ∀ e, core (f e) = f (core e)) : (l.modify i f).map core = (l.map core).modify i f := by
  apply List.ext_getElem?
  intro j
  rw [List.getElem?_map, List.getElem?_modify, List.getElem?_modify, List.getElem?_map]
  cases l[j]? with
  | none => rfl
  | some e =>
    simp only [Option.map_some, Option.map_eq_map]
    split
    · rw [hf]
    · rfl
theorem dropAll_core (l : List Ent) (d : List Nat) : (dropAll l d).map core = dropAll (l.map core) d := by
  unfold dropAll
  induction d generalizing l with
  | nil => rfl
  | cons i d ih => rw [List.foldl_cons, List.foldl_cons, ih, modify_core l i goneE (fun _ => rfl)]
theorem waitsB_core (e : Ent) : waitsB (core e) = waitsB e := rfl
section
variable {s r : Sto}
theorem Twin.length (h : Twin s r) : s.ents.length = r.ents.length := by
  have := congrArg List.length h.ents
  simpa using this
theorem Twin.at_ (h : Twin s r) (i : Nat) : core (entAt s.ents i) = core (entAt r.ents i) := by rw [← entAt_core, ← entAt_core, h.ents]
theorem Twin.key (h : Twin s r) (i : Nat) : (entAt s.ents i).key = (entAt r.ents i).key := have e := congrArg Ent.key (h.at_ i); e
theorem Twin.zone (h : Twin s r) (i : Nat) : (entAt s.ents i).zone = (entAt r.ents i).zone := have e := congrArg Ent.zone (h.at_ i); e
theorem Twin.gone (h : Twin s r) (i : Nat) : (entAt s.ents i).gone = (entAt r.ents i).gone := have e := congrArg Ent.gone (h.at_ i); e
theorem Twin.taken (h : Twin s r) (i : Nat) : (entAt s.ents i).taken = (entAt r.ents i).taken := have e := congrArg Ent.taken (h.at_ i); e
theorem Twin.idxs (h : Twin s r) (key : List Int) : idxs s.ents key = Proofs.Ytapfihlgemejiaa.idxs r.ents key := by rw [← idxs_core, h.ents, idxs_core]
theorem Twin.covers (h : Twin s r) (key : List Int) (z : Zn) : coversS s.ents key z = coversS r.ents key z := by rw [← coversS_core, h.ents, coversS_core]
theorem Twin.dropped (h : Twin s r) (key : List Int) (z : Zn) : dropped s.ents key z = Proofs.Ytapfihlgemejiaa.dropped r.ents key z := by rw [← dropped_core, h.ents, dropped_core]
theorem Twin.waits (h : Twin s r) : waitS s = waitS r := by
  have e : (List.range s.ents.length).filter (fun i => waitsB (entAt s.ents i)) = (List.range r.ents.length).filter fun i => waitsB (entAt r.ents i) := by
    rw [h.length]
    exact List.filter_congr fun i _ => by rw [← waitsB_core, h.at_ i, waitsB_core]
  unfold waitS
  rw [h.last, e]
theorem Twin.put (h : Twin s r) (key : List Int) (z : Zn) (ka : Option (Nat × Nat)) (kc zb : Nat) (ka' : Option (Nat × Nat)) (kc' zb' : Nat) : Twin (putS s key z ka kc zb) (putS r key z ka' kc' zb') := by
  refine ⟨h.last, h.tk, ?_⟩
  unfold putS
  simp only [List.map_append, List.map_cons, List.map_nil]
  rw [dropAll_core, dropAll_core, h.ents, h.dropped]
  rfl
theorem Twin.take (h : Twin s r) (i : Nat) : Twin (takeS s i) (takeS r i) := by
  refine ⟨h.last, by unfold takeS; simp only [h.tk], ?_⟩
  unfold takeS
  simp only
  rw [modify_core _ i (takeE s.tk) (fun _ => rfl), modify_core _ i (takeE r.tk) (fun _ => rfl), h.ents, h.tk]
theorem Twin.refl (s : Sto) : Twin s s := ⟨rfl, rfl, rfl⟩
end
end Go.Proofs.Ytapfihlgemejiaa
