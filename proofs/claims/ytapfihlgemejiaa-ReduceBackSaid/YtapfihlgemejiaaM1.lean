/- Steps of a walk that the kit's own do not take: a whole block read, a struct of one part built. -/
import Derived.Test.YtapfihlgemejiaaM0
namespace Go.Proofs.Ytapfihlgemejiaa
open Go.RowKit

theorem fill_whole (l : List Value) : ∀ (z : List Value) (k : Nat), k + l.length = z.length →
    (l.zipIdx k).foldl (fun cs (p : Value × Nat) => cs.setIfInBounds (0 + p.2) p.1) z.toArray = (z.take k ++ l).toArray := by
  induction l with
  | nil => intro z k h; simp at h; simp [h]
  | cons v l ih =>
    intro z k h
    simp only [List.zipIdx_cons, List.foldl_cons, List.length_cons] at h ⊢
    have e : z.toArray.setIfInBounds (0 + k) v = (z.set k v).toArray := by simp
    rw [e, ih (z.set k v) (k + 1) (by simp; omega)]
    congr 1
    rw [List.take_add_one, List.take_set_of_le (by omega)]
    simp [show k < z.length by omega]

section
variable {P : Program}
/-- A struct whose one field is the whole of it. -/
theorem run_build_one (w : World) (t e : TypeId) (f : Field) (z cs : List Value) (hu : P.underlying t = some (.struct #[f])) (ho : f.offset = 0) (he : f.type = e)
    (hz : (zeroValue t).run P w = .ok (.agg z.toArray) w) (hs : (sizeOf e).run P w = .ok z.length w) (hl : cs.length = z.length) :
    (Instr.build t #[(0, .agg cs.toArray)]).run P w = .ok (.agg cs.toArray) w := by
  have hw := fill_whole cs z 0 (by omega)
  subst he
  have hf : Instr.fill (fun i => ([(0, z.length)] : List (Nat × Nat))[i]?) z.toArray [(0, .agg cs.toArray)] = some cs.toArray := by
    have e1 : (cs.toArray.zipIdx.foldl (fun x (y : Value × Nat) => x.setIfInBounds (0 + y.2) y.1) z.toArray) = cs.toArray := by
      rw [← Array.foldl_toList]
      simp only [Array.toList_zipIdx]
      rw [hw]
      simp
    unfold Instr.fill
    have c1 : ¬ ((decide ((Value.agg cs.toArray).cells.size ≠ z.length) || decide (0 + (Value.agg cs.toArray).cells.size > z.toArray.size)) = true) := by
      simp [Value.cells, hl]
    simp only [List.getElem?_cons_zero]
    rw [if_neg c1]
    unfold Instr.fill
    exact congrArg some e1
  simp [Instr.build, Sem.run_bind, run_underlying hu, hz, hs, Value.cells, ho]
  rw [hf]; rfl

theorem wpList_build_one {ops : Array Oper} {rest : List Oper} {o : Oper} {a : Act} {w : World} {Q : Exit → Act → World → Prop} (hgd : o.guard = none) (t e : TypeId) (x : Operand) (ho : o.op = .build t #[(0, x)])
    (cs : List Value) (hx : a.eval x = .agg cs.toArray) (f : Field) (z : List Value) (hu : P.underlying t = some (.struct #[f])) (hf : f.offset = 0) (he : f.type = e)
    (hz : ∀ w, (zeroValue t).run P w = .ok (.agg z.toArray) w) (hs : ∀ w, (sizeOf e).run P w = .ok z.length w) (hl : cs.length = z.length)
    (h : wpList P ops Q rest (a.put o.dst (.agg cs.toArray)) w) : wpList P ops Q (o :: rest) a w :=
  wpList_plain hgd fun _ hK => by
    unfold Oper.wp execOp
    simp only [ho, List.map_toArray, List.map_cons, List.map_nil, hx, Sem.run_bind, run_build_one w t e f z cs hu hf he (hz w) (hs w) hl]
    exact hK _ _ h

/-- A block known whole is read at once. -/
theorem wpList_load_Row {ops : Array Oper} {rest : List Oper} {o : Oper} {a : Act} {w : World} {Q : Exit → Act → World → Prop} (hgd : o.guard = none) (ty : TypeId) (x : Operand) (ho : o.op = .load ty x)
    (g : Nat) (hx : a.eval x = .pointer (some ⟨g, 0, none⟩)) (t : TypeId) (cs : List Value) (d : TypeDesc) (hg : Row w g t cs)
    (hu : P.underlying ty = some d) (hd : (match d with | .struct _ | .array _ _ => true | _ => false) = true) (hi : (P.info? ty).map (·.size) = some cs.length)
    (h : wpList P ops Q rest (a.put o.dst (.agg cs.toArray)) w) : wpList P ops Q (o :: rest) a w :=
  wpList_load_row hgd ty x ho g hx t cs.toArray (0, 0) d hg hu hd (by simpa using hi) h
end
end Go.Proofs.Ytapfihlgemejiaa
