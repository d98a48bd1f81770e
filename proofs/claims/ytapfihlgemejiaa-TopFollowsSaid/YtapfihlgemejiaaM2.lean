/- Slices that are read: the cells that a slice's value shows. -/
import Derived.Test.YtapfihlgemejiaaM0
import Derived.Test.YtapfihlgemejiaaA0
namespace Go.Proofs.Ytapfihlgemejiaa
open Go.RowKit

/-- The slice at A shows the cells xs; they lie in a block below B. -/
def Elems (w : World) (B : Nat) (A : Option Addr) (xs : List Value) : Prop :=
  0 < xs.length → ∃ b off, A = some ⟨b, off, none⟩ ∧ b < B ∧ ∀ j u, xs[j]? = some u → w.cell? ⟨b, off + j, none⟩ = some u

section
variable {w w' : World} {B : Nat} {A : Option Addr} {xs : List Value}
theorem Elems.nil (w : World) (B : Nat) (A : Option Addr) : Elems w B A [] := fun h => absurd h (by simp)
theorem Elems.keep (h : Elems w B A xs) (hk : ∀ b, b < B → w'.heap[b]? = w.heap[b]?) : Elems w' B A xs := fun hl => by
  obtain ⟨b, off, e, hb, hc⟩ := h hl
  exact ⟨b, off, e, hb, fun j u hu => (World.cell?_of_block (w := w) (hk b hb)).trans (hc j u hu)⟩
theorem Elems.below (h : Elems w B A xs) (hb : Below B w w') : Elems w' B A xs := h.keep hb.block
theorem Elems.fr {S : Nat → Prop} (h : Elems w B A xs) (hb : Fr S w w') (hB : B ≤ w.heap.size) (hs : ∀ k, k < B → ¬ S k) : Elems w' B A xs :=
  h.keep fun b hb' => hb.block b (by omega) (hs b hb')
theorem Elems.new (h : Elems w B A xs) (hb : New w w') (hB : B ≤ w.heap.size) : Elems w' B A xs := h.fr hb hB fun _ _ e => e
theorem Elems.at_ {g : Nat} (h : Elems w B A xs) (hb : At g w w') (hB : B ≤ w.heap.size) (hg : B ≤ g) : Elems w' B A xs := h.fr hb hB fun k hk e => by have : k = g := e; omega
theorem Elems.mono {B' : Nat} (h : Elems w B A xs) (hB : B ≤ B') : Elems w B' A xs := fun hl => by
  obtain ⟨b, off, e, hb, hc⟩ := h hl
  exact ⟨b, off, e, by omega, hc⟩
theorem Elems.ints {k : IntKind} {l : List Int} (h : Elems w B A (l.map (Value.int k))) (j : Nat) (hj : j < l.length) :
    ∃ b off, A = some ⟨b, off, none⟩ ∧ b < B ∧ w.cell? ⟨b, off + j, none⟩ = some (.int k (gt l j)) := by
  obtain ⟨b, off, e, hb, hc⟩ := h (by simp; omega)
  exact ⟨b, off, e, hb, hc j _ (by simp [gt, hj])⟩
end
end Go.Proofs.Ytapfihlgemejiaa
