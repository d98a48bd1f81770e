/- Memory as these proofs speak of it: a block that is known whole, and what of a world a call leaves alone. | Steps of a walk that the kit's own do not take: a whole block read, a struct of one part built. -/
import Derived.Test.YtapfihlgemejiaaProg
import Derived.WalkKit
import Derived.WalkSpells
import Derived.WalkLawsBesides
import Derived.Deep.QuietTactic
import Derived.BigQuiet
import Derived.StillTailTactics
import Derived.Lib.Hide
import Derived.Deep.DeepCutAuto
-- Memory as these proofs speak of it: a block that is known whole, and what of a world a call leaves alone.
namespace Go.Proofs.Ytapfihlgemejiaa
open Go.RowKit

/-- Block g holds just these cells, of element type t, none of them frozen. -/
def Row (w : World) (g : Nat) (t : TypeId) (cs : List Value) : Prop := w.heap[g]? = some (.cells cs.toArray t (0, 0))

section
variable {w w' : World} {g : Nat} {t : TypeId} {cs : List Value}
theorem Row.cell (h : Row w g t cs) (i : Nat) : w.cell? ⟨g, i, none⟩ = cs[i]? := by
  rw [cell_of_row w g i _ t (0, 0) h]; simp
theorem Row.free (h : Row w g t cs) (i : Nat) : w.frozen? ⟨g, i, none⟩ = false := frozen_of_row w g i _ t h
theorem Row.lt (h : Row w g t cs) : g < w.heap.size := (Array.getElem?_eq_some_iff.1 h).1
theorem Row.new (w : World) (t : TypeId) (cs : List Value) : Row (w.alloc (.cells cs.toArray t)) w.heap.size t cs := heap_alloc_new w _
theorem Row.drew (h : Row w g t cs) : Row w.drew g t cs := h
theorem Row.drewN (h : Row w g t cs) (n : Nat) : Row (w.drewN n) g t cs := h
theorem Row.alloc (h : Row w g t cs) (o : Obj) : Row (w.alloc o) g t cs := (Below.heap_alloc w o g h.lt).trans h
theorem Row.set (h : Row w g t cs) (i : Nat) (v : Value) : Row (w.setCell ⟨g, i, none⟩ v) g t (cs.set i v) := by
  have := heap_setCell_same w g i cs.toArray t v h
  unfold Row
  rw [this]
  simp
theorem Row.far (h : Row w g t cs) {p : Addr} (hp : g ≠ p.block) (v : Value) : Row (w.setCell p v) g t cs := (heap_setCell_other w p g v hp).trans h
theorem Row.ne {g' : Nat} {t' : TypeId} {cs' : List Value} (h : Row w g t cs) (h' : Row w g' t' cs') (hne : t ≠ t') : g ≠ g' := by
  intro e
  subst e
  have h2 := h.symm.trans h'
  simp only [Option.some.injEq, Obj.cells.injEq] at h2
  exact hne h2.2.1
end

/-- What was there is as it was, but for the blocks of S. -/
structure Fr (S : Nat → Prop) (w w' : World) : Prop where
  os : w'.os = w.os
  tape : w'.tape = w.tape
  output : w'.output = w.output
  size : w.heap.size ≤ w'.heap.size
  block : ∀ k, k < w.heap.size → ¬ S k → w'.heap[k]? = w.heap[k]?

/-- Nothing that was there has turned. -/
def New (w w' : World) : Prop := Fr (fun _ => False) w w'
/-- Of what was there only block g may have turned. -/
def At (g : Nat) (w w' : World) : Prop := Fr (fun k => k = g) w w'

section
variable {S : Nat → Prop} {a b c w : World}
theorem Fr.refl (S : Nat → Prop) (w : World) : Fr S w w := ⟨rfl, rfl, rfl, Nat.le_refl _, fun _ _ _ => rfl⟩
theorem Fr.trans (h : Fr S a b) (k : Fr S b c) : Fr S a c :=
  ⟨k.os.trans h.os, k.tape.trans h.tape, k.output.trans h.output, Nat.le_trans h.size k.size,
   fun i hi hs => (k.block i (Nat.lt_of_lt_of_le hi h.size) hs).trans (h.block i hi hs)⟩
theorem Fr.mono {S' : Nat → Prop} (h : Fr S a b) (hs : ∀ k, k < a.heap.size → S k → S' k) : Fr S' a b :=
  ⟨h.os, h.tape, h.output, h.size, fun i hi hn => h.block i hi (fun e => hn (hs i hi e))⟩
theorem Fr.then {S' T : Nat → Prop} (h : Fr S a b) (k : Fr S' b c) (h1 : ∀ i, i < a.heap.size → S i → T i) (h2 : ∀ i, i < a.heap.size → S' i → T i) : Fr T a c :=
  ⟨k.os.trans h.os, k.tape.trans h.tape, k.output.trans h.output, Nat.le_trans h.size k.size,
   fun i hi hs => (k.block i (Nat.lt_of_lt_of_le hi h.size) (fun e => hs (h2 i hi e))).trans (h.block i hi (fun e => hs (h1 i hi e)))⟩
theorem Fr.drew (h : Fr S a w) : Fr S a w.drew := ⟨h.os, h.tape, h.output, h.size, h.block⟩
theorem Fr.drewN (h : Fr S a w) (n : Nat) : Fr S a (w.drewN n) := ⟨h.os, h.tape, h.output, h.size, h.block⟩
theorem Fr.alloc (h : Fr S a w) (o : Obj) : Fr S a (w.alloc o) :=
  ⟨h.os, h.tape, h.output, Nat.le_trans h.size (by simp), fun i hi hs => (Below.heap_alloc w o i (Nat.lt_of_lt_of_le hi h.size)).trans (h.block i hi hs)⟩
theorem Fr.set (h : Fr S a w) {p : Addr} (hp : S p.block ∨ a.heap.size ≤ p.block) (v : Value) : Fr S a (w.setCell p v) :=
  ⟨h.os, h.tape, h.output, by simpa using h.size, fun i hi hs => (heap_setCell_other w p i v (by
    rintro rfl
    rcases hp with hp | hp
    · exact hs hp
    · omega)).trans (h.block i hi hs)⟩
theorem Fr.of_new (h : New a b) : Fr S a b := h.mono (fun _ _ e => e.elim)
theorem Fr.row {g : Nat} {t : TypeId} {cs : List Value} (h : Fr S a b) (hr : Row a g t cs) (hs : ¬ S g) : Row b g t cs := (h.block g hr.lt hs).trans hr
theorem New.row {g : Nat} {t : TypeId} {cs : List Value} (h : New a b) (hr : Row a g t cs) : Row b g t cs := Fr.row h hr (fun e => e)
theorem New.below {B : Nat} (h : New a b) (hB : B ≤ a.heap.size) : Below B a b := ⟨h.os, h.tape, h.output, h.size, fun k hk => h.block k (by omega) (fun e => e)⟩
theorem Fr.below {B : Nat} (h : Fr S a b) (hB : B ≤ a.heap.size) (hs : ∀ k, k < B → ¬ S k) : Below B a b := ⟨h.os, h.tape, h.output, h.size, fun k hk => h.block k (by omega) (hs k hk)⟩
theorem Fr.of_below {B : Nat} (h : Below B a b) (hs : ∀ k, B ≤ k → k < a.heap.size → S k) : Fr S a b :=
  ⟨h.os, h.tape, h.output, h.size, fun k hk hn => h.block k (by
    rcases Nat.lt_or_ge k B with h1 | h1
    · exact h1
    · exact absurd (hs k h1 hk) hn)⟩
theorem Fr.of_grown {row : Option Nat} (h : a.grownBy b row) (hs : ∀ k, row = some k → k < a.heap.size → S k) : Fr S a b :=
  ⟨h.os, h.tape, h.output, h.size, fun k hk hn => h.block k hk (fun e => hn (hs k e.symm hk))⟩
theorem At.refl (g : Nat) (w : World) : At g w w := Fr.refl _ w
theorem At.set {g : Nat} (h : At g a w) (i : Nat) (v : Value) : At g a (w.setCell ⟨g, i, none⟩ v) := Fr.set h (p := ⟨g, i, none⟩) (.inl rfl) v
theorem At.drew {g : Nat} (h : At g a w) : At g a w.drew := Fr.drew h
theorem At.trans {g : Nat} (h : At g a b) (k : At g b c) : At g a c := Fr.trans h k
theorem New.trans (h : New a b) (k : New b c) : New a c := Fr.trans h k
/-- What turns only a block that is new to a is new to a. -/
theorem New.at_ {g : Nat} (h : New a b) (k : At g b c) (hg : a.heap.size ≤ g) : New a c :=
  Fr.then h k (fun _ _ e => e) (fun i hi e => by have : i = g := e; omega)
theorem At.new {g : Nat} (h : At g a b) (k : New b c) : At g a c := Fr.trans h (Fr.of_new k)
theorem New.refl (w : World) : New w w := Fr.refl _ w
theorem New.drew (h : New a w) : New a w.drew := Fr.drew h
theorem New.drewN (h : New a w) (n : Nat) : New a (w.drewN n) := Fr.drewN h n
theorem New.alloc (h : New a w) (o : Obj) : New a (w.alloc o) := Fr.alloc h o
theorem At.row {g g' : Nat} {t : TypeId} {cs : List Value} (h : At g a b) (hr : Row a g' t cs) (hn : g' ≠ g) : Row b g' t cs := Fr.row h hr hn
end
/-- The same world, but for draws. -/
def Drew (w w' : World) : Prop := ∃ n, w' = w.drewN n
theorem Drew.refl (w : World) : Drew w w := ⟨0, rfl⟩
theorem Drew.trans {a b c : World} (h : Drew a b) (k : Drew b c) : Drew a c := by
  obtain ⟨n, rfl⟩ := h
  obtain ⟨m, rfl⟩ := k
  exact ⟨n + m, World.drewN_drewN _ _ _⟩
theorem Drew.drewN {a b : World} (h : Drew a b) (n : Nat) : Drew a (b.drewN n) := h.trans ⟨n, rfl⟩
theorem Drew.heap {a b : World} (h : Drew a b) : b.heap = a.heap := by obtain ⟨n, rfl⟩ := h; rfl
theorem Drew.new {a b : World} (h : Drew a b) : New a b := by obtain ⟨n, rfl⟩ := h; exact (New.refl a).drewN n
theorem Drew.row {a b : World} (h : Drew a b) {g : Nat} {t : TypeId} {cs : List Value} (hr : Row a g t cs) : Row b g t cs := h.new.row hr
/-- A head of reads and quiet calls in one world, walked in the order of the text. -/
theorem still_of_quiet {P : Program} {ops : Array Oper} {w : World} {Q : Act → Prop} : ∀ (l : List Oper) (a : Act), wpQuiet P ops (fun x => x = w) Q l a → wpStill P ops w Q l a
  | [], _, h => h
  | o :: l, a, h => by
    unfold wpQuiet at h
    unfold wpStill
    by_cases hw : Region.wanted o (yielded ops a.tmps) = true
    · rw [if_pos hw] at h ⊢
      obtain ⟨v, hq, hn⟩ := h
      have hq := hq w rfl
      unfold Oper.quietAt at hq
      unfold Oper.still
      generalize (execOp a.eval o).run P w = r at *
      unfold Oper.quietUpon at hq
      unfold Oper.stillUpon
      cases r with
      | halt h w' => exact hq.elim
      | ok n w' =>
        cases n <;> simp only at hq ⊢
        case value u => obtain ⟨h1, h2⟩ := hq; subst h2; exact ⟨h1, still_of_quiet l _ hn⟩
        case skip => obtain ⟨h1, h2⟩ := hq; subst h2; exact ⟨h1, still_of_quiet l _ hn⟩
        case enter f args => exact ⟨hq.1, v, hq.2, still_of_quiet l _ hn⟩
    · rw [if_neg hw] at h ⊢
      exact still_of_quiet l _ h

end Go.Proofs.Ytapfihlgemejiaa
-- Steps of a walk that the kit's own do not take: a whole block read, a struct of one part built.
namespace Go.Proofs.Ytapfihlgemejiaa
open Go.RowKit

theorem fill_whole (l : List Value) : ∀ (z : List Value) (k : Nat), k + l.length = z.length →
    (l.zipIdx k).foldl (fun cs (p : Value × Nat) => cs.setIfInBounds (0 + p.2) p.1) z.toArray = (z.take k ++ l).toArray := by
  induction l with
  | nil => intro z k h; simp at h; simp [h]
  | cons v l ih =>
    intro z k h
    simp only [List.zipIdx_cons, List.foldl_cons, List.length_cons] at h ⊢
    have e : z.toArray.setIfInBounds (0 + k) v = (z.set k v).toArray := by simp
    rw [e, ih (z.set k v) (k + 1) (by simp; omega)]
    congr 1
    rw [List.take_add_one, List.take_set_of_le (by omega)]
    simp [show k < z.length by omega]

section
variable {P : Program}
/-- A struct whose one field is the whole of it. -/
theorem run_build_one (w : World) (t e : TypeId) (f : Field) (z cs : List Value) (hu : P.underlying t = some (.struct #[f])) (ho : f.offset = 0) (he : f.type = e)
    (hz : (zeroValue t).run P w = .ok (.agg z.toArray) w) (hs : (sizeOf e).run P w = .ok z.length w) (hl : cs.length = z.length) :
    (Instr.build t #[(0, .agg cs.toArray)]).run P w = .ok (.agg cs.toArray) w := by
  have hw := fill_whole cs z 0 (by omega)
  subst he
  have hf : Instr.fill (fun i => ([(0, z.length)] : List (Nat × Nat))[i]?) z.toArray [(0, .agg cs.toArray)] = some cs.toArray := by
    have e1 : (cs.toArray.zipIdx.foldl (fun x (y : Value × Nat) => x.setIfInBounds (0 + y.2) y.1) z.toArray) = cs.toArray := by
      rw [← Array.foldl_toList]
      simp only [Array.toList_zipIdx]
      rw [hw]
      simp
    unfold Instr.fill
    have c1 : ¬ ((decide ((Value.agg cs.toArray).cells.size ≠ z.length) || decide (0 + (Value.agg cs.toArray).cells.size > z.toArray.size)) = true) := by
      simp [Value.cells, hl]
    simp only [List.getElem?_cons_zero]
    rw [if_neg c1]
    unfold Instr.fill
    exact congrArg some e1
  simp [Instr.build, Sem.run_bind, run_underlying hu, hz, hs, Value.cells, ho]
  rw [hf]; rfl

theorem wpList_build_one {ops : Array Oper} {rest : List Oper} {o : Oper} {a : Act} {w : World} {Q : Exit → Act → World → Prop} (hgd : o.guard = none) (t e : TypeId) (x : Operand) (ho : o.op = .build t #[(0, x)])
    (cs : List Value) (hx : a.eval x = .agg cs.toArray) (f : Field) (z : List Value) (hu : P.underlying t = some (.struct #[f])) (hf : f.offset = 0) (he : f.type = e)
    (hz : ∀ w, (zeroValue t).run P w = .ok (.agg z.toArray) w) (hs : ∀ w, (sizeOf e).run P w = .ok z.length w) (hl : cs.length = z.length)
    (h : wpList P ops Q rest (a.put o.dst (.agg cs.toArray)) w) : wpList P ops Q (o :: rest) a w :=
  wpList_plain hgd fun _ hK => by
    unfold Oper.wp execOp
    simp only [ho, List.map_toArray, List.map_cons, List.map_nil, hx, Sem.run_bind, run_build_one w t e f z cs hu hf he (hz w) (hs w) hl]
    exact hK _ _ h

/-- A block known whole is read at once. -/
theorem wpList_load_Row {ops : Array Oper} {rest : List Oper} {o : Oper} {a : Act} {w : World} {Q : Exit → Act → World → Prop} (hgd : o.guard = none) (ty : TypeId) (x : Operand) (ho : o.op = .load ty x)
    (g : Nat) (hx : a.eval x = .pointer (some ⟨g, 0, none⟩)) (t : TypeId) (cs : List Value) (d : TypeDesc) (hg : Row w g t cs)
    (hu : P.underlying ty = some d) (hd : (match d with | .struct _ | .array _ _ => true | _ => false) = true) (hi : (P.info? ty).map (·.size) = some cs.length)
    (h : wpList P ops Q rest (a.put o.dst (.agg cs.toArray)) w) : wpList P ops Q (o :: rest) a w :=
  wpList_load_row hgd ty x ho g hx t cs.toArray (0, 0) d hg hu hd (by simpa using hi) h
end
end Go.Proofs.Ytapfihlgemejiaa
