/- The store of zones in memory. -/
import Derived.Test.YtapfihlgemejiaaVM6
import Derived.Test.YtapfihlgemejiaaVA3
import Derived.Test.YtapfihlgemejiaaVD5
namespace Go.Proofs.Ytapfihlgemejiaa
open Go.RowKit
theorem ZoneAt.keeps {w w' : World} {b : Nat} {z : Zn} (h : ZoneAt w b z) (hk : Keeps w w') : ZoneAt w' b z :=
  ⟨(hk b _ 177 _ h.row (by decide) (by decide)).trans h.row, h.len, h.dim⟩

def Bytes (l : List Int) : Prop := ∀ x ∈ l, 0 ≤ x ∧ x ≤ 255
def addrOf (a : Option (Nat × Nat)) : Option Addr := a.map fun p => ⟨p.1, p.2, none⟩
def entCells (e : Ent) : List Value := [.slice (addrOf e.ka) e.key.length e.kc, .pointer (some ⟨e.zb, 0, none⟩), .int .i64 e.taken, .bool e.gone]
def entRow (l : List Ent) : List Value := l.flatMap entCells

structure EntOk (w : World) (e : Ent) : Prop where
  bytes : Bytes e.key
  key : ElemsT w 5 (addrOf e.ka) (e.key.map (Value.int .u8))
  zone : ZoneAt w e.zb e.zone
  cap : e.key.length ≤ e.kc
  len : e.key.length ≤ 140737488355328

theorem EntOk.keeps {w w' : World} {e : Ent} (h : EntOk w e) (hk : Keeps w w') : EntOk w' e := ⟨h.bytes, h.key.keeps hk (by decide) (by decide), h.zone.keeps hk, h.cap, h.len⟩

/-- The lists that the map shows are those of the entries. -/
def OfOk (w : World) (ml : List (ByteArray × Value)) (l : List Ent) : Prop :=
  ∀ key, Bytes key → ∃ A c, (mapFind ml (strOfNums key)).getD (.slice none 0 0) = .slice A (idxs l key).length c ∧ ElemsT w 3 A ((idxs l key).map fun i : Nat => Value.int .i64 i)

/-- Block ps is a store's, and all that hangs on it is there; what may be written lies from base on. -/
structure StoreIn (base : Nat) (w : World) (ps : Nat) (s : Sto) (A : Option Addr) (c pm : Nat) (ml : List (ByteArray × Value)) : Prop where
  row : Row w ps 141 [.bool s.last, .slice A s.ents.length c, .map (some pm), .int .i64 s.tk]
  own : w.ownsRow base 143 4 (.slice A s.ents.length c) s.ents.length (entRow s.ents)
  map : MapAt w pm ml
  of : OfOk w ml s.ents
  ents : ∀ e ∈ s.ents, EntOk w e
  ok : s.Ok
  low : base ≤ ps
  lowm : base ≤ pm
def StoreAt (base : Nat) (w : World) (ps : Nat) (s : Sto) : Prop := ∃ A c pm ml, StoreIn base w ps s A c pm ml

theorem entRow_length (l : List Ent) : (entRow l).length = 4 * l.length := by
  induction l with
  | nil => rfl
  | cons e l ih => simp only [entRow, List.flatMap_cons, List.length_append, entCells, List.length_cons, List.length_nil] at *; omega
theorem entRow_get (l : List Ent) (i : Nat) (h : i < l.length) (k : Nat) (hk : k < 4) : (entRow l)[4 * i + k]? = (entCells (entAt l i))[k]? := by
  induction l generalizing i with
  | nil => simp at h
  | cons e l ih =>
    have e1 : entRow (e :: l) = entCells e ++ entRow l := rfl
    rw [e1]
    cases i with
    | zero =>
      rw [List.getElem?_append_left (by simp [entCells]; omega)]
      simp [entAt]
    | succ i =>
      rw [List.getElem?_append_right (by simp [entCells]; omega)]
      have : 4 * (i + 1) + k - (entCells e).length = 4 * i + k := by simp [entCells]; omega
      rw [this, ih i (by simpa using h)]
      rfl

theorem StoreIn.keep_new {base : Nat} {w w' : World} {ps : Nat} {s : Sto} {A : Option Addr} {c pm : Nat} {ml : List (ByteArray × Value)} (h : StoreIn base w ps s A c pm ml) (hn : New w w') : StoreIn base w' ps s A c pm ml where
  row := hn.row h.row
  own := h.own.kept (row := none) ⟨hn.os, hn.tape, hn.output, hn.size, fun k hk _ => hn.block k hk (fun e => e)⟩ (by
    cases hv : (Value.slice A s.ents.length c).ownBlock <;> simp)
  map := h.map.fr hn (fun e => e)
  of := fun key hk => by
    obtain ⟨A', c', h1, h2⟩ := h.of key hk
    exact ⟨A', c', h1, h2.keeps hn.keeps (by decide) (by decide)⟩
  ents := fun e he => (h.ents e he).keeps hn.keeps
  ok := h.ok
  low := h.low
  lowm := h.lowm
theorem StoreAt.new {base : Nat} {w w' : World} {ps : Nat} {s : Sto} (h : StoreAt base w ps s) (hn : New w w') : StoreAt base w' ps s := by
  obtain ⟨A, c, pm, ml, h⟩ := h
  exact ⟨A, c, pm, ml, h.keep_new hn⟩
theorem StoreAt.drew {base : Nat} {w w' : World} {ps : Nat} {s : Sto} (h : StoreAt base w ps s) (hn : Drew w w') : StoreAt base w' ps s := h.new hn.new

/-- What the walk reads of a store. -/
theorem StoreIn.cells {base : Nat} {w : World} {ps : Nat} {s : Sto} {A : Option Addr} {c pm : Nat} {ml : List (ByteArray × Value)} (h : StoreIn base w ps s A c pm ml) :
    w.cell? ⟨ps, 0, none⟩ = some (.bool s.last) ∧ w.cell? ⟨ps, 1, none⟩ = some (.slice A s.ents.length c) ∧ w.cell? ⟨ps, 2, none⟩ = some (.map (some pm)) ∧ w.cell? ⟨ps, 3, none⟩ = some (.int .i64 s.tk) :=
  ⟨h.row.cell 0, h.row.cell 1, h.row.cell 2, h.row.cell 3⟩
/-- An entry's cells. -/
theorem StoreIn.ent {base : Nat} {w : World} {ps : Nat} {s : Sto} {A : Option Addr} {c pm : Nat} {ml : List (ByteArray × Value)} (h : StoreIn base w ps s A c pm ml) (i : Nat) (hi : i < s.ents.length) :
    ∃ pe, A = some ⟨pe, 0, none⟩ ∧ base ≤ pe ∧ w.cell? ⟨pe, i * 4, none⟩ = some (.slice (addrOf (entAt s.ents i).ka) (entAt s.ents i).key.length (entAt s.ents i).kc) ∧ w.cell? ⟨pe, i * 4 + 1, none⟩ = some (.pointer (some ⟨(entAt s.ents i).zb, 0, none⟩)) ∧
      w.cell? ⟨pe, i * 4 + 2, none⟩ = some (.int .i64 (entAt s.ents i).taken) ∧ w.cell? ⟨pe, i * 4 + 3, none⟩ = some (.bool (entAt s.ents i).gone) ∧ ∀ k, w.frozen? ⟨pe, k, none⟩ = false := by
  rcases h.own.2 with ⟨_, h0⟩ | ⟨pe, cap, cur, hv, hb, hg, _, _, _, ht⟩
  · omega
  · injection hv with hA _ _
    subst hA
    have hc : ∀ k, k < 4 → w.cell? ⟨pe, i * 4 + k, none⟩ = (entCells (entAt s.ents i))[k]? := fun k hk => by
      rw [cell_of_row w pe _ cur 143 (0, 0) hg, ← entRow_get s.ents i hi k hk, ← ht, List.getElem?_take, if_pos (by omega), Nat.mul_comm i 4]
      simp
    exact ⟨pe, rfl, hb, hc 0 (by omega), hc 1 (by omega), hc 2 (by omega), hc 3 (by omega), fun k => frozen_of_row w pe k cur 143 hg⟩
theorem StoreIn.entOk {base : Nat} {w : World} {ps : Nat} {s : Sto} {A : Option Addr} {c pm : Nat} {ml : List (ByteArray × Value)} (h : StoreIn base w ps s A c pm ml) (i : Nat) (hi : i < s.ents.length) : EntOk w (entAt s.ents i) := by
  rw [entAt_eq hi]; exact h.ents _ (List.getElem_mem hi)

/-- Bytes become the text that a map's key is. -/
theorem run_key {w : World} {B : Nat} {A : Option Addr} {key : List Int} (h : Elems w B A (key.map (Value.int .u8))) (c : Nat) :
    (convert 30 9 (.slice A key.length c)).run Try.prog w = .ok (.string (strOfNums key)) w := by
  cases key with
  | nil =>
    rw [run_convert_bytes_string w 30 9 5 A _ c Try.underlying30 Try.underlying5 Try.underlying9]
    cases A with
    | none => simp [Conv.bytesToString]; rfl
    | some ad =>
      exact (run_bytesToString w ad 0 c [] (by simp [loadCells, loadCellsFrom])).trans rfl
  | cons x l =>
    obtain ⟨b, off, rfl, _, hc⟩ := h (by simp)
    exact run_convert_bytes_arg w 30 5 Try.underlying30 Try.underlying5 b off _ c (x :: l) rfl (fun i hi => hc i _ (by
      rw [List.getElem?_map, List.getElem?_eq_getElem hi, List.getD_eq_getElem?_getD, List.getElem?_eq_getElem hi]; rfl)) 9 Try.underlying9
end Go.Proofs.Ytapfihlgemejiaa
