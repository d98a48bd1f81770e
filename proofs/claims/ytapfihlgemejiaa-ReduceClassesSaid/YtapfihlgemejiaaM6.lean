/- Maps with whole numbers as keys: a key is struck. -/
import Derived.Test.YtapfihlgemejiaaM5
namespace Go.Proofs.Ytapfihlgemejiaa
open Go.RowKit

theorem map_erase {α β : Type} (f : α → β) (l : List α) (i : Nat) : (l.eraseIdx i).map f = (l.map f).eraseIdx i := by
  induction l generalizing i with
  | nil => rfl
  | cons a l ih =>
    cases i with
    | zero => rfl
    | succ i => simp [List.eraseIdx_cons_succ, ih]
theorem imFind_erase (l : List (Int × Value)) (k y : Int) (i : Nat) (hi : ∀ p, l[i]? = some p → p.1 = k) (hy : y ≠ k) : imFind (l.eraseIdx i) y = imFind l y := by
  unfold imFind
  induction l generalizing i with
  | nil => rfl
  | cons p l ih =>
    cases i with
    | zero =>
      have := hi p rfl
      rw [List.eraseIdx_cons_zero, List.find?_cons]
      rw [show (y == p.1) = false by rw [this]; simpa using hy]
    | succ i =>
      rw [List.eraseIdx_cons_succ, List.find?_cons, List.find?_cons]
      cases (y == p.1) with
      | true => rfl
      | false => exact ih i (fun q hq => hi q (by simpa using hq))
section
variable {P : Program} {w : World} {b : Nat} {l : List (Int × Value)}
theorem run_delete_int (h : IMapAt w b l) (t kt et : TypeId) (ht : P.underlying t = some (.map kt et)) (hk : P.underlying kt = some (.int .i64)) (ts : Array TypeId) (hts : ts[0]? = some t) (ty : TypeId) (k : Int) :
    ∃ w' l', (Builtin.delete_ ts ty #[.map (some b), .int .i64 k]).run P w = .ok (.tuple #[]) w' ∧ IMapAt w' b l' ∧ (∀ y, y ≠ k → imFind l' y = imFind l y) ∧ At b w w' := by
  obtain ⟨es, clock, hb, he⟩ := h
  have hf := findNow_int k es.toList l 0 he
  have hc : (Instr.checkKey es.isEmpty 10000 kt (.int .i64 k)).run P w = .ok () w := run_checkKey_int _ 9999 kt hk k
  have hlt := (Array.getElem?_eq_some_iff.1 hb).1
  have hat : ∀ o : Obj, At b w { w with heap := w.heap.setIfInBounds b o } := fun o =>
    ⟨rfl, rfl, rfl, by simp, fun k _ hne => by
      have hne : b ≠ k := fun e => hne e.symm
      simp [hne]⟩
  have hnew : ∀ o : Obj, ({ w with heap := w.heap.setIfInBounds b o } : World).heap[b]? = some o := fun o => by simp [hlt]
  cases hq : l.findIdx? fun p => k == p.1 with
  | none =>
    rw [hq] at hf
    refine ⟨{ w with heap := w.heap.setIfInBounds b (.map es clock) }, l, ?_, ⟨_, _, hnew _, he⟩, fun y _ => rfl, hat _⟩
    simp [Builtin.delete_, hts, run_underlying ht, MapKept.run_getObj_map hb, hc, Instr.findKey, run_underlying hk, hf, MapKept.run_setObj_map _ hb]
  | some i =>
    rw [hq] at hf
    have h2 := List.findIdx?_eq_some_iff_getElem.1 hq
    obtain ⟨hil, hki, _⟩ := h2
    have hki := (int_beq _ _).1 hki
    refine ⟨{ w with heap := w.heap.setIfInBounds b (.map (es.eraseIdxIfInBounds i) clock) }, l.eraseIdx i, ?_, ⟨_, _, hnew _, ?_⟩, fun y hy => imFind_erase l k y i (fun p hp => by rw [List.getElem?_eq_getElem hil] at hp; rw [← Option.some.inj hp]; exact hki.symm) hy, hat _⟩
    · simp [Builtin.delete_, hts, run_underlying ht, MapKept.run_getObj_map hb, hc, Instr.findKey, run_underlying hk, hf, MapKept.run_setObj_map _ hb]
    · have e1 : (es.eraseIdxIfInBounds i).toList = es.toList.eraseIdx i := by simp
      rw [e1, map_erase, he, ← map_erase]
end
end Go.Proofs.Ytapfihlgemejiaa
