/- A list that is grown, and the list that it was. -/
import Derived.Test.YtapfihlgemejiaaS20
namespace Go.Proofs.Ytapfihlgemejiaa
open Go.RowKit

def reps (k : IntKind) (n : Nat) (x : Int) : List Value := (List.replicate n x).map (Value.int k)
theorem reps_succ (k : IntKind) (n : Nat) (x : Int) : reps k n x ++ [.int k x] = reps k (n + 1) x := by
  unfold reps; rw [List.replicate_succ', List.map_append]; rfl
theorem reps_length (k : IntKind) (n : Nat) (x : Int) : (reps k n x).length = n := by simp [reps]
theorem reps_get {k : IntKind} {n : Nat} {x : Int} {j : Nat} (h : j < n) : (reps k n x)[j]? = some (.int k x) := by
  unfold reps; rw [List.getElem?_map, List.getElem?_replicate, if_pos h]; rfl
theorem reps_some {k : IntKind} {n : Nat} {x : Int} {j : Nat} {u : Value} (h : (reps k n x)[j]? = some u) : j < n ∧ u = .int k x := by
  have hj := (List.getElem?_eq_some_iff.1 h).1
  rw [reps_length] at hj
  rw [reps_get hj] at h
  exact ⟨hj, (Option.some.inj h).symm⟩

theorem ElemsT.unturned {w w' : World} {t : TypeId} {A : Option Addr} {xs : List Value} (h : ElemsT w t A xs) (hk : ∀ (b : Nat) (cs : Array Value) (fr : Nat × Nat), w.heap[b]? = some (Obj.cells cs t fr) → w'.heap[b]? = w.heap[b]?) : ElemsT w' t A xs := fun hl => by
  obtain ⟨b, off, cs, fr, e, hb, hc⟩ := h hl
  exact ⟨b, off, cs, fr, e, (hk b cs fr hb).trans hb, hc⟩

/-- The list at A (n numbers x) was grown by m: it is v now; w0: where that began. -/
structure Grow (base : Nat) (w0 w : World) (e : TypeId) (k : IntKind) (A : Option Addr) (n c : Nat) (x : Int) (m : Nat) (v : Value) : Prop where
  own : w.ownsRow base e 1 v (n + m) (reps k (n + m) x)
  old : ElemsT w e A (reps k n x)
  blk : v.ownBlock = (Value.slice A n c).ownBlock ∨ ∀ b, v.ownBlock = some b → w0.heap.size ≤ b
  fr : Fr (fun b => (Value.slice A n c).ownBlock = some b) w0 w
  form : n = 0 ∨ ∃ g, A = some ⟨g, 0, none⟩ ∧ g < w0.heap.size

section
variable {base : Nat} {w0 w w1 w' : World} {e : TypeId} {k : IntKind} {A : Option Addr} {n c : Nat} {x : Int} {m : Nat} {v v' : Value}
theorem Grow.start (h : w.ownsRow base e 1 (.slice A n c) n (reps k n x)) : Grow base w w e k A n c x 0 (.slice A n c) where
  own := h
  old := elemsT_of_own h
  blk := .inl rfl
  fr := Fr.refl _ _
  form := by
    by_cases h0 : n = 0
    · exact .inl h0
    · obtain ⟨g, hA, _, hg, _⟩ := own_cell h (by rw [reps_length]; omega)
      exact .inr ⟨g, hA, hg⟩
theorem Grow.step (h : Grow base w0 w e k A n c x m v) (hn : New w w1) (ho : w'.ownsRow base e 1 v' (n + m + 1) (reps k (n + m) x ++ [.int k x])) (hg : w1.grownBy w' v.ownBlock)
    (hloc : v'.ownBlock = v.ownBlock ∨ (v'.ownBlock = some w1.heap.size ∧ New w1 w')) : Grow base w0 w' e k A n c x (m + 1) v' := by
  have hs1 := hn.size
  have hs2 := hg.size
  have hs0 := h.fr.size
  refine ⟨by rw [reps_succ] at ho; exact ho, ?_, ?_, ?_, h.form⟩
  · rcases h.form with h0 | ⟨g, rfl, hgl⟩
    · subst h0
      exact fun hl => absurd hl (by simp [reps])
    · rcases hloc with hl | ⟨_, hn2⟩
      · rcases h.blk with hb | hb
        · -- the same block as the old one
          intro hpos
          rw [reps_length] at hpos
          obtain ⟨A', c', rfl⟩ := own_form ho
          obtain ⟨g', hA', _, _, _, _⟩ := own_cell ho (by simp [reps])
          subst hA'
          rw [hb] at hl
          have hgg : g' = g := by
            have : (some g' : Option Nat) = some g := hl
            exact Option.some.inj this
          subst hgg
          obtain ⟨b, off, cs, fr, hA, hh, hcc⟩ := elemsT_of_own ho (by simp [reps])
          cases hA
          refine ⟨g', 0, cs, fr, rfl, hh, fun j u hu => ?_⟩
          obtain ⟨hj, rfl⟩ := reps_some hu
          exact hcc j _ (by rw [reps_succ]; exact reps_get (by omega))
        · intro hpos
          obtain ⟨b, off, cs, fr, hA, hh, hc⟩ := h.old hpos
          cases hA
          have hbl := (Array.getElem?_eq_some_iff.1 hh).1
          have e1 : w'.heap[g]? = w.heap[g]? := (hg.block g (by omega) (fun e' => by have := hb g e'.symm; omega)).trans (hn.block g hbl (fun e => e))
          exact ⟨g, 0, cs, fr, rfl, e1.trans hh, hc⟩
      · exact h.old.unturned fun b cs fr hb => (hn.trans hn2).block b (Array.getElem?_eq_some_iff.1 hb).1 (fun e => e)
  · rcases hloc with hl | ⟨hl, _⟩
    · rcases h.blk with hb | hb
      · exact .inl (hl.trans hb)
      · exact .inr fun b hbb => hb b (by rw [← hl]; exact hbb)
    · refine .inr fun b hbb => ?_
      rw [hl] at hbb
      cases hbb
      omega
  · refine Fr.then h.fr ((Fr.of_new hn).trans (Fr.of_grown (S := fun b => v.ownBlock = some b) hg (fun b hb _ => hb.symm ▸ rfl))) (fun _ _ h => h) (fun b hb hv => ?_)
    rcases h.blk with hb2 | hb2
    · rw [← hb2]; exact hv
    · have := hb2 b hv; omega
end

/-- These cells are shown, in a block that is none of those of the lists from i on. -/
def Far (w : World) (e : TypeId) (bs : List Value) (i : Nat) (A : Option Addr) (xs : List Value) : Prop :=
  ElemsT w e A xs ∧ (0 < xs.length → ∀ b off, A = some ⟨b, off, none⟩ → ∀ (j : Nat) (v : Value), i ≤ j → bs[j]? = some v → v.ownBlock ≠ some b)
theorem Far.step {w w' : World} {e : TypeId} {bs : List Value} {i : Nat} {A : Option Addr} {xs : List Value} {v : Value} (h : Far w e bs i A xs) (hv : bs[i]? = some v) (hf : Fr (fun b => v.ownBlock = some b) w w') : Far w' e bs (i + 1) A xs := by
  refine ⟨fun hl => ?_, fun hl b off hA j v' hj hv' => h.2 hl b off hA j v' (by omega) hv'⟩
  obtain ⟨b, off, cs, fr, hA, hh, hc⟩ := h.1 hl
  have hbl := (Array.getElem?_eq_some_iff.1 hh).1
  exact ⟨b, off, cs, fr, hA, (hf.block b hbl (fun e' => h.2 hl b off hA i v (Nat.le_refl _) hv e')).trans hh, hc⟩
theorem Far.keeps {w w' : World} {e : TypeId} {bs : List Value} {i : Nat} {A : Option Addr} {xs : List Value} (h : Far w e bs i A xs) {S : TypeId → Prop} (hk : KeepsBut S w w') (hs : ¬ S e) : Far w' e bs i A xs :=
  ⟨h.1.unturned fun b cs fr hb => hk b cs e fr hb hs, h.2⟩
/-- What stands when list i was grown. -/
theorem Grow.far_old {base : Nat} {w0 w : World} {e : TypeId} {k : IntKind} {A : Option Addr} {n c m : Nat} {x : Int} {v : Value} {bs : List Value} {i : Nat} (h : Grow base w0 w e k A n c x m v)
    (hap : ∀ (j : Nat) (u : Value) (g : Nat), i + 1 ≤ j → bs[j]? = some u → (Value.slice A n c).ownBlock = some g → u.ownBlock ≠ some g) : Far w e bs (i + 1) A (reps k n x) :=
  ⟨h.old, fun hl b off hA j u hj hu => by
    rw [reps_length] at hl
    rcases h.form with h0 | ⟨g, hg, _⟩
    · omega
    · subst hA
      cases hg
      exact hap j u _ hj hu rfl⟩
theorem Grow.far_new {base : Nat} {w0 w : World} {e : TypeId} {k : IntKind} {A G : Option Addr} {n c m d : Nat} {x : Int} {bs : List Value} {i : Nat} (h : Grow base w0 w e k A n c x m (.slice G (n + m) d))
    (hap : ∀ (j : Nat) (u : Value) (g : Nat), i + 1 ≤ j → bs[j]? = some u → (Value.slice A n c).ownBlock = some g → u.ownBlock ≠ some g)
    (hlt : ∀ (j : Nat) (u : Value) (g : Nat), i + 1 ≤ j → bs[j]? = some u → u.ownBlock = some g → g < w0.heap.size) : Far w e bs (i + 1) G (reps k (n + m) x) := by
  refine ⟨elemsT_of_own h.own, fun hl b off hA j u hj hu hug => ?_⟩
  obtain ⟨g, hG, _⟩ := own_cell h.own hl
  have hgb : g = b := by
    rw [hG] at hA
    injection hA with hA
    injection hA
  subst hgb
  have hvb : (Value.slice G (n + m) d).ownBlock = some g := by rw [hG]; rfl
  rcases h.blk with hb | hb
  · exact hap j u g hj hu (hb.symm.trans hvb) hug
  · have h1 := hb g hvb
    have h2 := hlt j u g hj hu hug
    omega
end Go.Proofs.Ytapfihlgemejiaa
