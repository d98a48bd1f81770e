/- Calls of a store, plain: what a list of steps makes of it; what holds of each store that comes about so. -/
import Derived.Test.YtapfihlgemejiaaVA3
namespace Go.Proofs.Ytapfihlgemejiaa
structure Stp where
  kind : Int
  key : List Int
  n : Int
  cells : List Int

/-- The zone of a step. -/
def zoneS (x : Stp) : Option Zn := match ofZ x.n x.cells with
  | .ok Z => some ⟨x.n.toNat, Z⟩
  | .err _ => none
theorem zoneS_ok {x : Stp} {Z : List Int} (h : ofZ x.n x.cells = .ok Z) : zoneS x = some ⟨x.n.toNat, Z⟩ := by unfold zoneS; rw [h]
theorem zoneS_err {x : Stp} {c : Int} (h : ofZ x.n x.cells = .err c) : zoneS x = none := by unfold zoneS; rw [h]

/-- A store behind a Take that took entry i. -/
def takeS (s : Sto) (i : Nat) : Sto := { s with ents := s.ents.modify i (takeE s.tk), tk := s.tk + 1 }

theorem idxs_modify {l : List Ent} {i : Nat} (hi : i < l.length) (f : Ent → Ent) (hf : ∀ e, (f e).key = e.key ∧ (f e).gone = e.gone) (key : List Int) : idxs (l.modify i f) key = idxs l key := by
  unfold idxs
  rw [List.length_modify]
  apply List.filter_congr
  intro j _
  unfold under
  rw [entAt_modify l i j f hi]
  split
  · rw [(hf _).1, (hf _).2]
  · rfl
theorem takeS_length (s : Sto) (i : Nat) : (takeS s i).ents.length = s.ents.length := by unfold takeS; simp
theorem waitS_mem {s : Sto} {i : Nat} (h : i ∈ waitS s) : i < s.ents.length ∧ waitsB (entAt s.ents i) = true := by
  unfold waitS at h
  split at h
  · rw [List.mem_reverse, List.mem_filter] at h
    exact ⟨List.mem_range.1 h.1, h.2⟩
  · rw [List.mem_filter] at h
    exact ⟨List.mem_range.1 h.1, h.2⟩
theorem waitS_head {s : Sto} {i : Nat} {r : List Nat} (h : waitS s = i :: r) : i < s.ents.length ∧ waitsB (entAt s.ents i) = true := waitS_mem (by rw [h]; exact List.mem_cons_self)

end Go.Proofs.Ytapfihlgemejiaa
