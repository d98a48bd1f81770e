/- Slices that are read, with the type of what they lie in; what leaves all but a store's own kinds alone. -/
import Derived.Test.YtapfihlgemejiaaVM3
namespace Go.Proofs.Ytapfihlgemejiaa
open Go.RowKit
/-- The slice at A shows the cells xs, in a block of elements of type t. -/
def ElemsT (w : World) (t : TypeId) (A : Option Addr) (xs : List Value) : Prop :=
  0 < xs.length → ∃ b off cs fr, A = some ⟨b, off, none⟩ ∧ w.heap[b]? = some (.cells cs t fr) ∧ ∀ j u, xs[j]? = some u → cs[off + j]? = some u

theorem ElemsT.elems {w : World} {t : TypeId} {A : Option Addr} {xs : List Value} (h : ElemsT w t A xs) : Elems w w.heap.size A xs := fun hl => by
  obtain ⟨b, off, cs, fr, e, hb, hc⟩ := h hl
  refine ⟨b, off, e, (Array.getElem?_eq_some_iff.1 hb).1, fun j u hu => ?_⟩
  rw [cell_of_row w b _ cs t fr hb]
  exact hc j u hu
theorem ElemsT.nil (w : World) (t : TypeId) (A : Option Addr) : ElemsT w t A [] := fun h => absurd h (by simp)

/-- All blocks but a store's own two kinds, and the maps, are as they were. -/
def Keeps (w w' : World) : Prop := ∀ (g : Nat) (cs : Array Value) (t : TypeId) (fr : Nat × Nat), w.heap[g]? = some (Obj.cells cs t fr) → t ≠ 141 → t ≠ 143 → w'.heap[g]? = w.heap[g]?

theorem Keeps.refl (w : World) : Keeps w w := fun _ _ _ _ _ _ _ => rfl
theorem Keeps.trans {a b c : World} (h : Keeps a b) (k : Keeps b c) : Keeps a c := fun g cs t fr hg h1 h2 => by
  have e := h g cs t fr hg h1 h2
  exact (k g cs t fr (e.trans hg) h1 h2).trans e
theorem New.keeps {a b : World} (h : New a b) : Keeps a b := fun g _ _ _ hg _ _ => h.block g (Array.getElem?_eq_some_iff.1 hg).1 (fun e => e)
theorem Drew.keeps {a b : World} (h : Drew a b) : Keeps a b := h.new.keeps
theorem ElemsT.keeps {w w' : World} {t : TypeId} {A : Option Addr} {xs : List Value} (h : ElemsT w t A xs) (hk : Keeps w w') (h1 : t ≠ 141) (h2 : t ≠ 143) : ElemsT w' t A xs := fun hl => by
  obtain ⟨b, off, cs, fr, e, hb, hc⟩ := h hl
  exact ⟨b, off, cs, fr, e, (hk b cs t fr hb h1 h2).trans hb, hc⟩
theorem elemsT_of_own {w : World} {base e size n : Nat} {A : Option Addr} {c : Nat} {xs : List Value} (h : w.ownsRow base e size (.slice A n c) n xs) : ElemsT w e A xs := fun hl => by
  rcases h.2 with ⟨_, rfl⟩ | ⟨g, cap, cur, hv, _, hg, _, _, _, ht⟩
  · have := h.1; simp at this; subst this; simp at hl
  · injection hv with hA _ _
    subst hA
    refine ⟨g, 0, cur, (0, 0), rfl, hg, fun j u hu => ?_⟩
    rw [← ht, List.getElem?_take] at hu
    split at hu
    · simpa using hu
    · cases hu
end Go.Proofs.Ytapfihlgemejiaa
