/- Families of lists of numbers, each in a block of its own. -/
import Derived.Test.YtapfihlgemejiaaS19
import Derived.Test.YtapfihlgemejiaaS5
namespace Go.Proofs.Ytapfihlgemejiaa
open Go.RowKit

/-- The lists bs show the numbers ys; no two of them share a block. -/
structure Fam (base : Nat) (w : World) (e : TypeId) (k : IntKind) (bs : List Value) (ys : Nat → List Int) : Prop where
  own : ∀ (i : Nat) (v : Value), bs[i]? = some v → w.ownsRow base e 1 v (ys i).length ((ys i).map (Value.int k))
  apart : ∀ (i j : Nat) (v u : Value) (g : Nat), bs[i]? = some v → bs[j]? = some u → i ≠ j → v.ownBlock = some g → u.ownBlock ≠ some g

section
variable {base : Nat} {w w' : World} {e : TypeId} {k : IntKind} {bs : List Value} {ys : Nat → List Int}
theorem Fam.nil (base : Nat) (w : World) (e : TypeId) (k : IntKind) (ys : Nat → List Int) : Fam base w e k [] ys := ⟨fun i v h => by simp at h, fun i j v u g h => by simp at h⟩
theorem Fam.keep (h : Fam base w e k bs ys) {S : TypeId → Prop} (hk : KeepsBut S w w') (hs : ¬ S e) : Fam base w' e k bs ys := ⟨fun i v hv => hk.own (h.own i v hv) hs, h.apart⟩
theorem Fam.new (h : Fam base w e k bs ys) (hn : New w w') : Fam base w' e k bs ys := ⟨fun i v hv => own_new (h.own i v hv) hn, h.apart⟩
/-- One list more, in a block that is new. -/
theorem Fam.snoc (h : Fam base w e k bs ys) {v : Value} {y : List Int} (hn : New w w') (ho : w'.ownsRow w.heap.size e 1 v y.length (y.map (Value.int k))) (hb : base ≤ w.heap.size) :
    Fam base w' e k (bs ++ [v]) (fun i => if i = bs.length then y else ys i) := by
  have hget : ∀ i u, (bs ++ [v])[i]? = some u → (i < bs.length ∧ bs[i]? = some u) ∨ (i = bs.length ∧ u = v) := fun i u hu => by
    by_cases hi : i < bs.length
    · rw [List.getElem?_append_left hi] at hu; exact .inl ⟨hi, hu⟩
    · rw [List.getElem?_append_right (by omega)] at hu
      by_cases h0 : i = bs.length
      · subst h0; simp at hu; exact .inr ⟨rfl, hu.symm⟩
      · have : i - bs.length ≠ 0 := by omega
        cases hq : i - bs.length with
        | zero => omega
        | succ q => rw [hq] at hu; simp at hu
  have hold : ∀ i u g, i < bs.length → bs[i]? = some u → u.ownBlock = some g → g < w.heap.size := fun i u g _ hu hg => by
    obtain ⟨_, cur, hc⟩ := own_row (h.own i u hu) hg
    exact (Array.getElem?_eq_some_iff.1 hc).1
  refine ⟨fun i u hu => ?_, fun i j u u' g hu hu' hij hg hg' => ?_⟩
  · rcases hget i u hu with ⟨hi, hu⟩ | ⟨rfl, rfl⟩
    · rw [if_neg (by omega)]; exact own_new (h.own i u hu) hn
    · rw [if_pos rfl]; exact ⟨ho.1, (own_lower ho hb).2⟩
  · rcases hget i u hu with ⟨hi, hu1⟩ | ⟨hi, hu1⟩
    · rcases hget j u' hu' with ⟨hj, hu2⟩ | ⟨hj, hu2⟩
      · exact h.apart i j u u' g hu1 hu2 hij hg hg'
      · have h1 := hold i u g hi hu1 hg
        rw [hu2] at hg'
        have h2 := (own_row ho hg').1
        omega
    · rcases hget j u' hu' with ⟨hj, hu2⟩ | ⟨hj, hu2⟩
      · have h1 := hold j u' g hj hu2 hg'
        rw [hu1] at hg
        have h2 := (own_row ho hg).1
        omega
      · omega
/-- One number is written. -/
theorem Fam.set (h : Fam base w e k bs ys) {i g c : Nat} (hi : bs[i]? = some (.slice (some ⟨g, 0, none⟩) (ys i).length c)) (j : Nat) (x : Int) :
    Fam base (w.setCell ⟨g, j, none⟩ (.int k x)) e k bs (fun t => if t = i then (ys i).set j x else ys t) := by
  refine ⟨fun t v hv => ?_, h.apart⟩
  by_cases ht : t = i
  · subst ht
    rw [if_pos rfl]
    rw [hi] at hv
    simp only [Option.some.injEq] at hv
    subst hv
    have := own_set (h.own t _ hi) j (.int k x)
    rw [List.map_set, List.length_set]
    exact this
  · rw [if_neg ht]
    refine own_keep (h.own t v hv) fun g' hg' => heap_setCell_other w ⟨g, j, none⟩ g' _ fun e' => ?_
    have e' : g' = g := e'
    subst e'
    exact h.apart i t _ v g' hi hv (fun e => ht e.symm) rfl hg'
end
theorem fill_done {l : List Int} {n : Nat} {x : Int} (hl : l.length = n) (h : ∀ j, j < n → gt l j = x) : l = List.replicate n x := by
  apply List.ext_getElem (by simp [hl])
  intro j h1 h2
  have := h j (by omega)
  unfold gt at this
  rw [List.getD_eq_getElem?_getD, List.getElem?_eq_getElem h1] at this
  simpa using this
end Go.Proofs.Ytapfihlgemejiaa
