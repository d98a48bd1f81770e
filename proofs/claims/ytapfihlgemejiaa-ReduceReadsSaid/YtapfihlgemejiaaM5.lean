/- Maps with whole numbers as keys. | Maps with whole numbers as keys: a key is struck. -/
import Derived.Test.YtapfihlgemejiaaM3
-- Maps with whole numbers as keys.
namespace Go.Proofs.Ytapfihlgemejiaa
open Go.RowKit

/-! ### maps with whole numbers as keys -/

/-- Block b is a map that holds these pairs, in the order in which their keys came. -/
def IMapAt (w : World) (b : Nat) (l : List (Int × Value)) : Prop :=
  ∃ es clock, w.heap[b]? = some (.map es clock) ∧ es.toList.map (fun e => (e.key, e.val)) = l.map fun p => (Value.int .i64 p.1, p.2)

def imFind (l : List (Int × Value)) (k : Int) : Option Value := (l.find? fun p => k == p.1).map (·.2)
def imPut (l : List (Int × Value)) (k : Int) (v : Value) : List (Int × Value) :=
  match l.findIdx? (fun p => k == p.1) with
  | some i => l.modify i fun p => (p.1, v)
  | none => l ++ [(k, v)]

theorem IMapAt.made (w : World) : IMapAt (w.alloc (.map #[] 0)) w.heap.size [] := ⟨#[], 0, heap_alloc_new w _, rfl⟩
theorem IMapAt.fr {S : Nat → Prop} {w w' : World} {b : Nat} {l : List (Int × Value)} (h : IMapAt w b l) (hf : Fr S w w') (hs : ¬ S b) : IMapAt w' b l := by
  obtain ⟨es, clock, hb, he⟩ := h
  exact ⟨es, clock, (hf.block b (Array.getElem?_eq_some_iff.1 hb).1 hs).trans hb, he⟩
theorem IMapAt.lt {w : World} {b : Nat} {l : List (Int × Value)} (h : IMapAt w b l) : b < w.heap.size := by
  obtain ⟨es, clock, hb, he⟩ := h
  exact (Array.getElem?_eq_some_iff.1 hb).1

theorem findNow_int (k : Int) : ∀ (es : List MapEntry) (l : List (Int × Value)) (i : Nat), es.map (fun e => (e.key, e.val)) = l.map (fun p => (Value.int .i64 p.1, p.2)) →
    Instr.findNow (.int .i64) (.int .i64 k) es i = some ((l.findIdx? fun p => k == p.1).map fun j => (i + j, ((l.find? fun p => k == p.1).map (·.2)).getD undef))
  | [], l, i, h => by
    have : l = [] := by simpa using h.symm
    subst this
    rfl
  | e :: es, [], i, h => by simp at h
  | e :: es, p :: l, i, h => by
    simp only [List.map_cons, List.cons.injEq, Prod.mk.injEq] at h
    obtain ⟨⟨hk, hv⟩, ht⟩ := h
    have ih := findNow_int k es l (i + 1) ht
    unfold Instr.findNow
    rw [hk]
    have hs : Instr.sameNow (.int .i64) (.int .i64 k) (.int .i64 p.1) = some (k == p.1) := rfl
    rw [hs]
    cases hq : (k == p.1) with
    | true => simp [List.findIdx?_cons, hq, hv]
    | false =>
      simp only [ih, List.findIdx?_cons, hq, List.find?_cons, Bool.false_eq_true, if_false, Option.map_map]
      congr 2
      funext j
      simp only [Function.comp]
      rw [Nat.add_assoc, Nat.add_comm 1 j]

theorem int_beq (a b : Int) : (a == b) = true ↔ a = b := beq_iff_eq
theorem int_beq_false {a b : Int} (h : a ≠ b) : (a == b) = false := by
  cases hq : (a == b) with
  | false => rfl
  | true => exact absurd ((int_beq a b).1 hq) h

theorem imFind_put (l : List (Int × Value)) (k k' : Int) (v : Value) : imFind (imPut l k v) k' = if k' = k then some v else imFind l k' := by
  unfold imPut
  cases hq : l.findIdx? (fun p => k == p.1) with
  | none =>
    rw [List.findIdx?_eq_none_iff] at hq
    unfold imFind
    simp only [List.find?_append]
    by_cases h : k' = k
    · subst h
      have : l.find? (fun p => k' == p.1) = none := by
        rw [List.find?_eq_none]; intro x hx; rw [hq x hx]; decide
      rw [this, if_pos rfl]
      simp
    · rw [if_neg h]
      simp [int_beq_false h]
  | some i =>
    obtain ⟨hil, hi, hbefore⟩ := List.findIdx?_eq_some_iff_getElem.1 hq
    have hki := (int_beq _ _).1 hi
    clear hq
    simp only
    unfold imFind
    induction l generalizing i with
    | nil => simp at hil
    | cons p l ih =>
      cases i with
      | zero =>
        simp only [List.modify_zero_cons, List.find?_cons]
        simp only [List.getElem_cons_zero] at hki
        subst hki
        by_cases h : k' = p.1
        · subst h; simp
        · simp [int_beq_false h, h]
      | succ i =>
        have hp : (k == p.1) = false := by
          have := hbefore 0 (by omega)
          simpa using this
        simp only [List.modify_succ_cons, List.find?_cons]
        cases hk' : (k' == p.1) with
        | true =>
          have e1 := (int_beq _ _).1 hk'
          have : k' ≠ k := by
            rintro rfl; rw [hk'] at hp; cases hp
          simp [this]
        | false =>
          exact ih i (by simpa using hil) (by simpa using hi) (fun j hj => by have := hbefore (j + 1) (by omega); simpa using this) (by simpa using hki)

section
variable {P : Program} {w : World} {b : Nat} {l : List (Int × Value)}
theorem run_checkKey_int (empty : Bool) (n : Nat) (kt : TypeId) (hk : P.underlying kt = some (.int .i64)) (k : Int) : (Instr.checkKey empty (n + 1) kt (.int .i64 k)).run P w = .ok () w := by
  simp [Instr.checkKey, run_underlying hk]

theorem run_lookup_int (h : IMapAt w b l) (t kt et : TypeId) (ht : P.underlying t = some (.map kt et)) (hk : P.underlying kt = some (.int .i64)) (z : Value) (hz : (zeroValue et).run P w = .ok z w) (k : Int) :
    (Instr.lookup t (.map (some b)) (.int .i64 k) false).run P w = .ok ((imFind l k).getD z) w := by
  obtain ⟨es, clock, hb, he⟩ := h
  have hf := findNow_int k es.toList l 0 he
  have hc : (Instr.checkKey es.isEmpty 10000 kt (.int .i64 k)).run P w = .ok () w := run_checkKey_int _ 9999 kt hk k
  simp only [Instr.lookup, Sem.run_bind, run_underlying ht, Result.andThen_ok, MapKept.run_getObj_map hb, Sem.run_pure, hc, Instr.findKey, run_underlying hk, hf]
  unfold imFind
  cases hq : l.findIdx? fun p => k == p.1 with
  | none =>
    have : l.find? (fun p => k == p.1) = none := by
      rw [List.find?_eq_none]; rw [List.findIdx?_eq_none_iff] at hq
      intro x hx; rw [hq x hx]; decide
    simp [this, hz]
  | some i =>
    cases hp : l.find? fun p => k == p.1 with
    | none =>
      rw [List.find?_eq_none] at hp
      have h2 := (List.findIdx?_eq_some_iff_getElem.1 hq)
      obtain ⟨h3, h4, _⟩ := h2
      exact absurd h4 (hp _ (List.getElem_mem h3))
    | some p => simp

theorem run_lookup2_int (h : IMapAt w b l) (t kt et : TypeId) (ht : P.underlying t = some (.map kt et)) (hk : P.underlying kt = some (.int .i64)) (z : Value) (hz : (zeroValue et).run P w = .ok z w) (k : Int) :
    (Instr.lookup t (.map (some b)) (.int .i64 k) true).run P w = .ok (.tuple #[(imFind l k).getD z, .bool (imFind l k).isSome]) w := by
  obtain ⟨es, clock, hb, he⟩ := h
  have hf := findNow_int k es.toList l 0 he
  have hc : (Instr.checkKey es.isEmpty 10000 kt (.int .i64 k)).run P w = .ok () w := run_checkKey_int _ 9999 kt hk k
  simp only [Instr.lookup, Sem.run_bind, run_underlying ht, Result.andThen_ok, MapKept.run_getObj_map hb, Sem.run_pure, hc, Instr.findKey, run_underlying hk, hf]
  unfold imFind
  cases hq : l.findIdx? fun p => k == p.1 with
  | none =>
    have : l.find? (fun p => k == p.1) = none := by
      rw [List.find?_eq_none]; rw [List.findIdx?_eq_none_iff] at hq
      intro x hx; rw [hq x hx]; decide
    simp [this, hz]
  | some i =>
    cases hp : l.find? fun p => k == p.1 with
    | none =>
      rw [List.find?_eq_none] at hp
      have h2 := (List.findIdx?_eq_some_iff_getElem.1 hq)
      obtain ⟨h3, h4, _⟩ := h2
      exact absurd h4 (hp _ (List.getElem_mem h3))
    | some p => simp

theorem run_mapUpdate_int (h : IMapAt w b l) (t kt et : TypeId) (ht : P.underlying t = some (.map kt et)) (hk : P.underlying kt = some (.int .i64)) (k : Int) (v : Value) :
    ∃ w', (Instr.mapUpdate t (.map (some b)) (.int .i64 k) v).run P w = .ok () w' ∧ IMapAt w' b (imPut l k v) ∧ At b w w' := by
  obtain ⟨es, clock, hb, he⟩ := h
  have hf := findNow_int k es.toList l 0 he
  have hc : (Instr.checkKey false 10000 kt (.int .i64 k)).run P w = .ok () w := run_checkKey_int _ 9999 kt hk k
  have hlt := (Array.getElem?_eq_some_iff.1 hb).1
  have hat : ∀ o : Obj, At b w { w with heap := w.heap.setIfInBounds b o } := fun o =>
    ⟨rfl, rfl, rfl, by simp, fun k _ hne => by
      have hne : b ≠ k := fun e => hne e.symm
      simp [hne]⟩
  have hnew : ∀ o : Obj, ({ w with heap := w.heap.setIfInBounds b o } : World).heap[b]? = some o := fun o => by simp [hlt]
  unfold imPut
  cases hq : l.findIdx? fun p => k == p.1 with
  | none =>
    rw [hq] at hf
    refine ⟨{ w with heap := w.heap.setIfInBounds b (.map (es.push { key := .int .i64 k, val := v, born := clock }) (clock + 1)) }, ?_, ⟨_, _, hnew _, ?_⟩, hat _⟩
    · simp only [Instr.mapUpdate, Sem.run_bind, run_underlying ht, Result.andThen_ok, MapKept.run_getObj_map hb, Sem.run_pure, hc, Instr.findKey, run_underlying hk, hf, Option.map_none, MapKept.run_setObj_map _ hb]
    · simp [he]
  | some i =>
    rw [hq] at hf
    have hil : i < l.length := by
      have := List.findIdx?_eq_some_iff_getElem.1 hq
      exact this.1
    have hie : i < es.toList.length := by
      have := congrArg List.length he; simp only [List.length_map] at this; omega
    have hkey : (es.toList[i]'hie).key = .int .i64 k := by
      have h1 := congrArg (fun x => x[i]?) he
      simp only [List.getElem?_map, List.getElem?_eq_getElem hie, List.getElem?_eq_getElem hil, Option.map_some, Option.some.injEq, Prod.mk.injEq] at h1
      rw [h1.1]
      have h2 := (List.findIdx?_eq_some_iff_getElem.1 hq).2.1
      rw [(int_beq _ _).1 h2]
    have hold : ((es[i]?).map (·.key)).getD (.int .i64 k) = .int .i64 k := by
      rw [← Array.getElem?_toList, List.getElem?_eq_getElem hie]
      simpa using hkey
    have hstay : (Instr.keyThatStays (.int .i64 k) (.int .i64 k)).run P w = .ok (.int .i64 k) w := by
      have : Instr.sameBits 10000 (.int .i64 k) (.int .i64 k) = true := by
        show (k == k) = true
        exact (int_beq k k).2 rfl
      simp [Instr.keyThatStays, this]
    refine ⟨{ w with heap := w.heap.setIfInBounds b (.map (es.modify i fun e => { e with key := .int .i64 k, val := v }) clock) }, ?_, ⟨_, _, hnew _, ?_⟩, hat _⟩
    · simp only [Instr.mapUpdate, Sem.run_bind, run_underlying ht, Result.andThen_ok, MapKept.run_getObj_map hb, Sem.run_pure, hc, Instr.findKey, run_underlying hk, hf, Option.map_some, Nat.zero_add, hold, hstay, MapKept.run_setObj_map _ hb]
    · simp only [Array.toList_modify]
      apply List.ext_getElem?
      intro j
      have h1 := congrArg (fun x => x[j]?) he
      simp only [List.getElem?_map, List.getElem?_modify] at h1 ⊢
      by_cases hij : i = j
      · subst hij
        have hk2 : l[i]? = some l[i] := List.getElem?_eq_getElem hil
        have he2 : es.toList[i]? = some es.toList[i] := List.getElem?_eq_getElem hie
        rw [hk2, he2] at h1 ⊢
        simp only [if_true, Option.map_some, Option.some.injEq, Prod.mk.injEq, Option.map_eq_map] at h1 ⊢
        have h2 := (List.findIdx?_eq_some_iff_getElem.1 hq).2.1
        rw [(int_beq _ _).1 h2]
        exact ⟨rfl, trivial⟩
      · simp only [if_neg hij, Option.map_eq_map, Option.map_id']
        exact h1
end


end Go.Proofs.Ytapfihlgemejiaa
-- Maps with whole numbers as keys: a key is struck.
namespace Go.Proofs.Ytapfihlgemejiaa
open Go.RowKit

theorem map_erase {α β : Type} (f : α → β) (l : List α) (i : Nat) : (l.eraseIdx i).map f = (l.map f).eraseIdx i := by
  induction l generalizing i with
  | nil => rfl
  | cons a l ih =>
    cases i with
    | zero => rfl
    | succ i => simp [List.eraseIdx_cons_succ, ih]
theorem imFind_erase (l : List (Int × Value)) (k y : Int) (i : Nat) (hi : ∀ p, l[i]? = some p → p.1 = k) (hy : y ≠ k) : imFind (l.eraseIdx i) y = imFind l y := by
  unfold imFind
  induction l generalizing i with
  | nil => rfl
  | cons p l ih =>
    cases i with
    | zero =>
      have := hi p rfl
      rw [List.eraseIdx_cons_zero, List.find?_cons]
      rw [show (y == p.1) = false by rw [this]; simpa using hy]
    | succ i =>
      rw [List.eraseIdx_cons_succ, List.find?_cons, List.find?_cons]
      cases (y == p.1) with
      | true => rfl
      | false => exact ih i (fun q hq => hi q (by simpa using hq))
section
variable {P : Program} {w : World} {b : Nat} {l : List (Int × Value)}
theorem run_delete_int (h : IMapAt w b l) (t kt et : TypeId) (ht : P.underlying t = some (.map kt et)) (hk : P.underlying kt = some (.int .i64)) (ts : Array TypeId) (hts : ts[0]? = some t) (ty : TypeId) (k : Int) :
    ∃ w' l', (Builtin.delete_ ts ty #[.map (some b), .int .i64 k]).run P w = .ok (.tuple #[]) w' ∧ IMapAt w' b l' ∧ (∀ y, y ≠ k → imFind l' y = imFind l y) ∧ At b w w' := by
  obtain ⟨es, clock, hb, he⟩ := h
  have hf := findNow_int k es.toList l 0 he
  have hc : (Instr.checkKey es.isEmpty 10000 kt (.int .i64 k)).run P w = .ok () w := run_checkKey_int _ 9999 kt hk k
  have hlt := (Array.getElem?_eq_some_iff.1 hb).1
  have hat : ∀ o : Obj, At b w { w with heap := w.heap.setIfInBounds b o } := fun o =>
    ⟨rfl, rfl, rfl, by simp, fun k _ hne => by
      have hne : b ≠ k := fun e => hne e.symm
      simp [hne]⟩
  have hnew : ∀ o : Obj, ({ w with heap := w.heap.setIfInBounds b o } : World).heap[b]? = some o := fun o => by simp [hlt]
  cases hq : l.findIdx? fun p => k == p.1 with
  | none =>
    rw [hq] at hf
    refine ⟨{ w with heap := w.heap.setIfInBounds b (.map es clock) }, l, ?_, ⟨_, _, hnew _, he⟩, fun y _ => rfl, hat _⟩
    simp [Builtin.delete_, hts, run_underlying ht, MapKept.run_getObj_map hb, hc, Instr.findKey, run_underlying hk, hf, MapKept.run_setObj_map _ hb]
  | some i =>
    rw [hq] at hf
    have h2 := List.findIdx?_eq_some_iff_getElem.1 hq
    obtain ⟨hil, hki, _⟩ := h2
    have hki := (int_beq _ _).1 hki
    refine ⟨{ w with heap := w.heap.setIfInBounds b (.map (es.eraseIdxIfInBounds i) clock) }, l.eraseIdx i, ?_, ⟨_, _, hnew _, ?_⟩, fun y hy => imFind_erase l k y i (fun p hp => by rw [List.getElem?_eq_getElem hil] at hp; rw [← Option.some.inj hp]; exact hki.symm) hy, hat _⟩
    · simp [Builtin.delete_, hts, run_underlying ht, MapKept.run_getObj_map hb, hc, Instr.findKey, run_underlying hk, hf, MapKept.run_setObj_map _ hb]
    · have e1 : (es.eraseIdxIfInBounds i).toList = es.toList.eraseIdx i := by simp
      rw [e1, map_erase, he, ← map_erase]
end
end Go.Proofs.Ytapfihlgemejiaa
