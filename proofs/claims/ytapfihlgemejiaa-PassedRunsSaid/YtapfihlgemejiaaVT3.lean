/- gnomonref16.Store: Covers, Of, Waiting. -/
import Derived.Test.YtapfihlgemejiaaVS3
import Derived.Test.YtapfihlgemejiaaVQ8
import Derived.Test.YtapfihlgemejiaaVS6
namespace Go.Proofs.Ytapfihlgemejiaa
open Go.RowKit
/-- All blocks but a document's store's own two kinds are as they were. -/
def RKeeps (w w' : World) : Prop := ∀ (g : Nat) (o : Obj), w.heap[g]? = some o → (∀ cs fr, o ≠ .cells cs 190 fr ∧ o ≠ .cells cs 194 fr) → w'.heap[g]? = w.heap[g]?
theorem RKeeps.refl (w : World) : RKeeps w w := fun _ _ _ _ => rfl
theorem RKeeps.trans {a b c : World} (h : RKeeps a b) (k : RKeeps b c) : RKeeps a c := fun g o hg ho => by
  have e := h g o hg ho
  exact (k g o (e.trans hg) ho).trans e
theorem New.rkeeps {a b : World} (h : New a b) : RKeeps a b := fun g _ hg _ => h.block g (Array.getElem?_eq_some_iff.1 hg).1 (fun e => e)
theorem RKeeps.cells {w w' : World} (h : RKeeps w w') {g : Nat} {cs : Array Value} {t : TypeId} {fr : Nat × Nat} (hg : w.heap[g]? = some (.cells cs t fr)) (h1 : t ≠ 190) (h2 : t ≠ 194) : w'.heap[g]? = w.heap[g]? :=
  h g _ hg fun cs' fr' => ⟨fun e => by injection e with _ e _; exact h1 e, fun e => by injection e with _ e _; exact h2 e⟩
theorem ElemsT.rkeeps {w w' : World} {t : TypeId} {A : Option Addr} {xs : List Value} (h : ElemsT w t A xs) (hk : RKeeps w w') (h1 : t ≠ 190) (h2 : t ≠ 194) : ElemsT w' t A xs := fun hl => by
  obtain ⟨b, off, cs, fr, e, hb, hc⟩ := h hl
  exact ⟨b, off, cs, fr, e, (hk.cells hb h1 h2).trans hb, hc⟩
theorem ZoneAt.rkeeps {w w' : World} {b : Nat} {z : Zn} (h : ZoneAt w b z) (hk : RKeeps w w') : ZoneAt w' b z := ⟨(hk.cells h.row (by decide) (by decide)).trans h.row, h.len, h.dim⟩
theorem EntOk.rkeeps {w w' : World} {e : Ent} (h : EntOk w e) (hk : RKeeps w w') : EntOk w' e := ⟨h.bytes, h.key.rkeeps hk (by decide) (by decide), h.zone.rkeeps hk, h.cap, h.len⟩
theorem MapAt.rkeeps {w w' : World} {b : Nat} {l : List (ByteArray × Value)} (h : MapAt w b l) (hk : RKeeps w w') : MapAt w' b l := by
  obtain ⟨es, clock, h1, h2⟩ := h
  exact ⟨es, clock, (hk b _ h1 fun cs fr => ⟨(fun e => by cases e), (fun e => by cases e)⟩).trans h1, h2⟩
theorem StoreAt.rkeeps {base : Nat} {w w' : World} {ps : Nat} {s : Sto} (h : StoreAt base w ps s) (hk : RKeeps w w') : StoreAt base w' ps s := by
  obtain ⟨A, c, pm, ml, h⟩ := h
  refine ⟨A, c, pm, ml, (hk.cells h.row (by decide) (by decide)).trans h.row, ?_, h.map.rkeeps hk, fun key hb => ?_, fun e he => (h.ents e he).rkeeps hk, h.ok, h.low, h.lowm⟩
  · exact own_keep h.own fun g hg => by
      obtain ⟨_, cur, h2⟩ := own_row h.own hg
      exact hk.cells h2 (by decide) (by decide)
  · obtain ⟨A', c', h1, h2⟩ := h.of key hb
    exact ⟨A', c', h1, h2.rkeeps hk (by decide) (by decide)⟩
theorem RefAt.keeps {w w' : World} {b : Nat} {z : Zn} (h : RefAt w b z) (hk : Keeps w w') : RefAt w' b z := by
  obtain ⟨A, c, h1, h2⟩ := h.row
  exact ⟨⟨A, c, (hk b _ 214 _ h1 (by decide) (by decide)).trans h1, h2.keeps hk (by decide) (by decide)⟩, h.dim, h.len⟩
theorem RefAt.rkeeps {w w' : World} {b : Nat} {z : Zn} (h : RefAt w b z) (hk : RKeeps w w') : RefAt w' b z := by
  obtain ⟨A, c, h1, h2⟩ := h.row
  exact ⟨⟨A, c, (hk.cells h1 (by decide) (by decide)).trans h1, h2.rkeeps hk (by decide) (by decide)⟩, h.dim, h.len⟩
/-- An entry of the document's store. -/
def rentCells (e : Ent) : List Value := [.slice (addrOf e.ka) e.key.length e.kc, .pointer (some ⟨e.zb, 0, none⟩), .bool (waitsB e), .bool e.gone, .int .i64 e.taken]
def rentRow (l : List Ent) : List Value := l.flatMap rentCells
structure REntOk (w : World) (e : Ent) : Prop where
  bytes : Bytes e.key
  key : ElemsT w 5 (addrOf e.ka) (e.key.map (Value.int .u8))
  zone : RefAt w e.zb e.zone
  good : ZGood e.zone
  len : e.key.length ≤ 140737488355328
theorem REntOk.keeps {w w' : World} {e : Ent} (h : REntOk w e) (hk : Keeps w w') : REntOk w' e := ⟨h.bytes, h.key.keeps hk (by decide) (by decide), h.zone.keeps hk, h.good, h.len⟩
theorem REntOk.rkeeps {w w' : World} {e : Ent} (h : REntOk w e) (hk : RKeeps w w') : REntOk w' e := ⟨h.bytes, h.key.rkeeps hk (by decide) (by decide), h.zone.rkeeps hk, h.good, h.len⟩
structure RStoreIn (base : Nat) (w : World) (rs : Nat) (s : Sto) (A : Option Addr) (c : Nat) : Prop where
  row : Row w rs 190 [.slice A s.ents.length c, .bool s.last, .int .i64 s.tk]
  own : w.ownsRow base 194 5 (.slice A s.ents.length c) s.ents.length (rentRow s.ents)
  ents : ∀ e ∈ s.ents, REntOk w e
  ok : s.Ok
  low : base ≤ rs
def RStoreAt (base : Nat) (w : World) (rs : Nat) (s : Sto) : Prop := ∃ A c, RStoreIn base w rs s A c
section
variable {base : Nat} {w w' : World} {rs : Nat} {s : Sto} {A : Option Addr} {c : Nat}
theorem RStoreIn.keep_new (h : RStoreIn base w rs s A c) (hn : New w w') : RStoreIn base w' rs s A c :=
  ⟨hn.row h.row, own_new h.own hn, fun e he => (h.ents e he).keeps hn.keeps, h.ok, h.low⟩
theorem RStoreAt.new (h : RStoreAt base w rs s) (hn : New w w') : RStoreAt base w' rs s := by
  obtain ⟨A, c, h⟩ := h
  exact ⟨A, c, h.keep_new hn⟩
theorem RStoreAt.keeps (h : RStoreAt base w rs s) (hk : Keeps w w') : RStoreAt base w' rs s := by
  obtain ⟨A, c, h⟩ := h
  refine ⟨A, c, (hk rs _ 190 _ h.row (by decide) (by decide)).trans h.row, ?_, fun e he => (h.ents e he).keeps hk, h.ok, h.low⟩
  exact own_keep h.own fun g hg => by
    obtain ⟨_, cur, h2⟩ := own_row h.own hg
    exact hk g _ 194 _ h2 (by decide) (by decide)
theorem rentRow_length (l : List Ent) : (rentRow l).length = 5 * l.length := by
  induction l with
  | nil => rfl
  | cons e l ih => simp only [rentRow, List.flatMap_cons, List.length_append, rentCells, List.length_cons, List.length_nil] at *; omega
theorem rentRow_get (l : List Ent) (i : Nat) (h : i < l.length) (k : Nat) (hk : k < 5) : (rentRow l)[5 * i + k]? = (rentCells (entAt l i))[k]? := by
  induction l generalizing i with
  | nil => simp at h
  | cons e l ih =>
    have e1 : rentRow (e :: l) = rentCells e ++ rentRow l := rfl
    rw [e1]
    cases i with
    | zero =>
      rw [List.getElem?_append_left (by simp [rentCells]; omega)]
      simp [entAt]
    | succ i =>
      rw [List.getElem?_append_right (by simp [rentCells]; omega)]
      have : 5 * (i + 1) + k - (rentCells e).length = 5 * i + k := by simp [rentCells]; omega
      rw [this, ih i (by simpa using h)]
      rfl
theorem RStoreIn.cells (h : RStoreIn base w rs s A c) : w.cell? ⟨rs, 0, none⟩ = some (.slice A s.ents.length c) ∧ w.cell? ⟨rs, 1, none⟩ = some (.bool s.last) ∧ w.cell? ⟨rs, 2, none⟩ = some (.int .i64 s.tk) := ⟨h.row.cell 0, h.row.cell 1, h.row.cell 2⟩
theorem RStoreIn.ent (h : RStoreIn base w rs s A c) (i : Nat) (hi : i < s.ents.length) :
    ∃ pe, A = some ⟨pe, 0, none⟩ ∧ base ≤ pe ∧ (∃ cur, w.heap[pe]? = some (Obj.cells cur 194 (0, 0))) ∧ w.cell? ⟨pe, i * 5, none⟩ = some (.slice (addrOf (entAt s.ents i).ka) (entAt s.ents i).key.length (entAt s.ents i).kc) ∧ w.cell? ⟨pe, i * 5 + 1, none⟩ = some (.pointer (some ⟨(entAt s.ents i).zb, 0, none⟩)) ∧
      w.cell? ⟨pe, i * 5 + 2, none⟩ = some (.bool (waitsB (entAt s.ents i))) ∧ w.cell? ⟨pe, i * 5 + 3, none⟩ = some (.bool (entAt s.ents i).gone) ∧ w.cell? ⟨pe, i * 5 + 4, none⟩ = some (.int .i64 (entAt s.ents i).taken) ∧ ∀ k, w.frozen? ⟨pe, k, none⟩ = false := by
  rcases h.own.2 with ⟨_, h0⟩ | ⟨pe, cap, cur, hv, hb, hg, _, _, _, ht⟩
  · omega
  · injection hv with hA _ _
    subst hA
    have hc : ∀ k, k < 5 → w.cell? ⟨pe, i * 5 + k, none⟩ = (rentCells (entAt s.ents i))[k]? := fun k hk => by
      rw [cell_of_row w pe _ cur 194 (0, 0) hg, ← rentRow_get s.ents i hi k hk, ← ht, List.getElem?_take, if_pos (by omega), Nat.mul_comm i 5]
      simp
    exact ⟨pe, rfl, hb, ⟨cur, hg⟩, hc 0 (by omega), hc 1 (by omega), hc 2 (by omega), hc 3 (by omega), hc 4 (by omega), fun k => frozen_of_row w pe k cur 194 hg⟩
theorem RStoreIn.entOk (h : RStoreIn base w rs s A c) (i : Nat) (hi : i < s.ents.length) : REntOk w (entAt s.ents i) := by
  rw [entAt_eq hi]; exact h.ents _ (List.getElem_mem hi)
end
set_option maxHeartbeats 400000 in
theorem rnew_any (last : Bool) (base : Nat) (w : World) (hb : base ≤ w.heap.size) :
    Calls Try.prog 61 #[.bool last] w fun e w' => e = .returned (.pointer (some ⟨w.heap.size, 0, none⟩)) ∧ RStoreAt base w' w.heap.size (newSto last) ∧ New w w' := by
  go_enter Try.func61, Try.ntmps61
  go_wp2
  go_ret
  refine ⟨rfl, ⟨none, 0, ?_⟩, (New.refl w).alloc _⟩
  exact ⟨Row.new w 190 [.slice none 0 0, .bool last, .int .i64 0], World.ownsRow_nil _ _ _ _, (fun e he => by cases he), ⟨by simp [newSto], rfl⟩, hb⟩
set_option maxHeartbeats 400000 in
theorem rlen_any {base : Nat} {rs : Nat} {s : Sto} (w : World) (h : RStoreAt base w rs s) :
    Calls Try.prog 131 #[.pointer (some ⟨rs, 0, none⟩)] w fun e w' => e = .returned (.int .i64 s.ents.length) ∧ w = w' := by
  obtain ⟨A, c, h⟩ := h
  obtain ⟨h0, _, _⟩ := h.cells
  clear h
  go_enter Try.func131, Try.ntmps131
  go_wp2
  go_ret
  exact ⟨rfl, rfl⟩
set_option maxHeartbeats 1000000 in
theorem ris_any {base : Nat} {rs : Nat} {s : Sto} (i : Int) (w : World) (h : RStoreAt base w rs s) :
    Calls Try.prog 137 #[.pointer (some ⟨rs, 0, none⟩), .int .i64 i] w fun e w' => e = .returned (.bool (decide (0 ≤ i ∧ i < s.ents.length))) ∧ w = w' := by
  obtain ⟨A, c, h⟩ := h
  obtain ⟨h0, _, _⟩ := h.cells
  clear h
  by_cases hi : 0 ≤ i
  · have hd : decide (0 ≤ i ∧ i < s.ents.length) = decide (i < s.ents.length) := by
      by_cases h : i < s.ents.length
      · rw [decide_eq_true h, decide_eq_true ⟨hi, h⟩]
      · rw [decide_eq_false h, decide_eq_false (fun e => h e.2)]
    rw [hd]
    clear hd
    go_enter Try.func137, Try.ntmps137
    go_wp2_with fail
    go_ret
    exact ⟨rfl, rfl⟩
  · have hd : decide (0 ≤ i ∧ i < s.ents.length) = false := decide_eq_false (fun e => hi e.1)
    rw [hd]
    clear hd
    go_enter Try.func137, Try.ntmps137
    go_wp2_with fail
    go_ret
    exact ⟨rfl, rfl⟩
set_option maxHeartbeats 1000000 in
theorem rgone_any {base : Nat} {rs : Nat} {s : Sto} (i : Nat) (w : World) (h : RStoreAt base w rs s) (hi : i < s.ents.length) :
    Calls Try.prog 135 #[.pointer (some ⟨rs, 0, none⟩), .int .i64 i] w fun e w' => e = .returned (.bool (entAt s.ents i).gone) ∧ w = w' := by
  have H := ris_any (i : Int) w h
  rw [decide_eq_true (by omega)] at H
  have H := Lib.hid H
  obtain ⟨A, c, h⟩ := h
  obtain ⟨h0, _, _⟩ := h.cells
  obtain ⟨pe, rfl, _, _, _, _, _, h4, _⟩ := h.ent i hi
  have hiz : (i : Int) < s.ents.length := by omega
  clear h
  generalize (entAt s.ents i).gone = g at *
  go_enter Try.func135, Try.ntmps135
  go_wp2_with fail
  refine H.out.mono ?_
  rintro e w' ⟨rfl, rfl⟩
  go_wp2_with fail
  go_ret
  exact ⟨rfl, rfl⟩
set_option maxHeartbeats 1000000 in
theorem rgone_none {base : Nat} {rs : Nat} {s : Sto} (i : Int) (w : World) (h : RStoreAt base w rs s) (hi : i < 0 ∨ (s.ents.length : Int) ≤ i) :
    Calls Try.prog 135 #[.pointer (some ⟨rs, 0, none⟩), .int .i64 i] w fun e w' => e = .returned (.bool false) ∧ w = w' := by
  have H := ris_any i w h
  rw [decide_eq_false (by omega)] at H
  have H := Lib.hid H
  clear h
  go_enter Try.func135, Try.ntmps135
  go_wp2_with fail
  refine H.out.mono ?_
  rintro e w' ⟨rfl, rfl⟩
  go_wp2_with fail
  go_ret
  exact ⟨rfl, rfl⟩
set_option maxHeartbeats 1000000 in
theorem rtaken_any {base : Nat} {rs : Nat} {s : Sto} (i : Nat) (w : World) (h : RStoreAt base w rs s) (hi : i < s.ents.length) :
    Calls Try.prog 136 #[.pointer (some ⟨rs, 0, none⟩), .int .i64 i] w fun e w' => e = .returned (.int .i64 (entAt s.ents i).taken) ∧ w = w' := by
  have H := ris_any (i : Int) w h
  rw [decide_eq_true (by omega)] at H
  have H := Lib.hid H
  obtain ⟨A, c, h⟩ := h
  obtain ⟨h0, _, _⟩ := h.cells
  obtain ⟨pe, rfl, _, _, _, _, _, _, h5, _⟩ := h.ent i hi
  have hiz : (i : Int) < s.ents.length := by omega
  clear h
  generalize (entAt s.ents i).taken = t at *
  go_enter Try.func136, Try.ntmps136
  go_wp2_with fail
  refine H.out.mono ?_
  rintro e w' ⟨rfl, rfl⟩
  go_wp2_with fail
  go_ret
  exact ⟨rfl, rfl⟩
set_option maxHeartbeats 1000000 in
theorem rtaken_none {base : Nat} {rs : Nat} {s : Sto} (i : Int) (w : World) (h : RStoreAt base w rs s) (hi : i < 0 ∨ (s.ents.length : Int) ≤ i) :
    Calls Try.prog 136 #[.pointer (some ⟨rs, 0, none⟩), .int .i64 i] w fun e w' => e = .returned (.int .i64 (-1)) ∧ w = w' := by
  have H := ris_any i w h
  rw [decide_eq_false (by omega)] at H
  have H := Lib.hid H
  clear h
  go_enter Try.func136, Try.ntmps136
  go_wp2_with fail
  refine H.out.mono ?_
  rintro e w' ⟨rfl, rfl⟩
  go_wp2_with fail
  go_ret
  exact ⟨rfl, rfl⟩
end Go.Proofs.Ytapfihlgemejiaa
namespace Go.Proofs.Ytapfihlgemejiaa
open Go.RowKit
set_option maxHeartbeats 1000000 in
theorem ralike_any (a b : Nat) (y z : Zn) (w : World) (hy : RefAt w a y) (hz : RefAt w b z) :
    Calls Try.prog 189 #[.pointer (some ⟨a, 0, none⟩), .pointer (some ⟨b, 0, none⟩)] w fun e w' => e = .returned (.bool (decide (y.n = z.n))) ∧ Drew w w' := by
  obtain ⟨_, _, _, c0, _, _⟩ := hy.reads
  obtain ⟨_, _, _, d0, _, _⟩ := hz.reads
  have hd : decide (y.n = z.n) = ((y.n : Int) == (z.n : Int)) := by
    rw [Bool.eq_iff_iff]; simp only [decide_eq_true_eq, beq_iff_eq]; omega
  rw [hd]
  clear hy hz hd
  go_enter Try.func189, Try.ntmps189
  go_wp2_with fail
  go_quiet (fail)
  go_wp2_with fail
  go_ret
  exact ⟨rfl, _, rfl⟩
/-- What a zone of the document's shows, cell by cell. -/
theorem RefAt.dense_ {w : World} {b : Nat} {z : Zn} (h : RefAt w b z) : ∃ a off c, w.cell? ⟨b, 1, none⟩ = some (.slice (some ⟨a, off, none⟩) (cellsOf z).length c) ∧ ∀ t, t < (cellsOf z).length → w.cell? ⟨a, off + t, none⟩ = some (.int .i32 (gt (cellsOf z) t)) := by
  obtain ⟨A, c, h1, h2⟩ := h.row
  have hl : 0 < (ints32 (cellsOf z)).length := by rw [ints32_length, cellsOf_length]; exact Nat.mul_pos (Nat.succ_pos _) (Nat.succ_pos _)
  obtain ⟨a, off, rfl, _, hc⟩ := h2.elems hl
  refine ⟨a, off, c, by rw [cellsOf_length]; exact h1.cell 1, fun t ht => hc _ _ ?_⟩
  unfold ints32 gt
  rw [List.getElem?_map, List.getD_eq_getElem?_getD, List.getElem?_eq_getElem ht]; rfl
theorem gt_cellsOf (z : Zn) {i j : Nat} (hi : i ≤ z.n) (hj : j ≤ z.n) : gt (cellsOf z) (i * (z.n + 1) + j) = gt z.Z (9 * i + j) := by
  unfold gt
  rw [List.getD_eq_getElem?_getD, cellsOf_get z hi hj]; rfl
theorem incl_dense {y z : Zn} (hn : y.n = z.n) (he : emptyB z.Z = false) : inclB y z = true ↔ ∀ t, t < (cellsOf y).length → gt (cellsOf z) t ≤ gt (cellsOf y) t := by
  rw [inclB_iff]
  constructor
  · rintro ⟨_, h⟩ t ht
    rw [cellsOf_length] at ht
    obtain ⟨a, b, e⟩ := split_at ht
    rcases h with h | h
    · rw [he] at h; cases h
    · have h1 := h _ _ a b
      rw [e, gt_cellsOf y a b]
      rw [hn] at a b
      rw [hn, gt_cellsOf z a b]
      rw [hn] at h1
      exact h1
  · intro h
    refine ⟨hn, .inr fun i j hi hj => ?_⟩
    have h1 := h (i * (y.n + 1) + j) (by rw [cellsOf_length]; exact at_lt hi hj)
    rw [gt_cellsOf y hi hj] at h1
    rw [hn] at hi hj h1
    rw [gt_cellsOf z hi hj] at h1
    exact h1
theorem incl_empty {y z : Zn} (hg : ZGood z) (hy : emptyB y.Z = true) (hz : emptyB z.Z = false) : inclB y z = false := by
  cases hq : inclB y z with
  | false => rfl
  | true =>
    rw [inclB_iff] at hq
    rcases hq.2 with h | h
    · rw [hz] at h; cases h
    · have h1 := h 0 0 (Nat.zero_le _) (Nat.zero_le _)
      unfold emptyB at hy
      have hy := of_decide_eq_true hy
      rcases hg.2 with e | e
      · rw [e, zeros_empty] at hz; cases hz
      · have h2 : gt z.Z 0 = 1 := e.diag 0 (Nat.zero_le _)
        rw [Nat.mul_zero, Nat.zero_add] at h1
        omega
set_option maxRecDepth 100000 in
set_option maxHeartbeats 2000000 in
theorem rincludes_any (a b : Nat) (y z : Zn) (w : World) (hy : RefAt w a y) (hz : RefAt w b z) (gy : ZGood y) (gz : ZGood z) :
    Calls Try.prog 171 #[.pointer (some ⟨a, 0, none⟩), .pointer (some ⟨b, 0, none⟩)] w fun e w' => e = .returned (.bool (inclB y z)) ∧ Drew w w' := by
  have AL := ralike_any a b y z w hy hz
  have EY := Lib.hid (fun W (hd : Drew w W) => rempty_any a y W (hy.new hd.new) gy.le1)
  have EZ := Lib.hid (fun W (hd : Drew w W) => rempty_any b z W (hz.new hd.new) gz.le1)
  have HY := Lib.hid hy
  have HZ := Lib.hid hz
  by_cases hn : y.n = z.n
  · rw [decide_eq_true hn] at AL
    have AL := Lib.hid AL
    have HNN := Lib.hid hn
    cases hez : emptyB z.Z with
    | true =>
      have hi : inclB y z = true := by rw [inclB_iff]; exact ⟨hn, .inl hez⟩
      rw [hi]
      rw [hez] at EZ
      clear hi hn hy hz gy gz hez
      go_enter Try.func171, Try.ntmps171
      go_wp2_with fail
      refine AL.out.mono ?_
      rintro e w1 ⟨rfl, hd1⟩
      go_wp2_with fail
      refine (EZ.out _ hd1).mono ?_
      rintro e w' ⟨rfl, rfl⟩
      go_wp2_with fail
      refine (EZ.out _ hd1).mono ?_
      rintro e w' ⟨rfl, rfl⟩
      go_wp2_with fail
      go_ret
      exact ⟨rfl, hd1⟩
    | false =>
      rw [hez] at EZ
      cases hey : emptyB y.Z with
      | true =>
        rw [hey] at EY
        rw [incl_empty gz hey hez]
        clear hn hy hz gy gz hez hey
        go_enter Try.func171, Try.ntmps171
        go_wp2_with fail
        refine AL.out.mono ?_
        rintro e w1 ⟨rfl, hd1⟩
        go_wp2_with fail
        refine (EZ.out _ hd1).mono ?_
        rintro e w' ⟨rfl, rfl⟩
        go_wp2_with fail
        refine (EY.out _ hd1).mono ?_
        rintro e w' ⟨rfl, rfl⟩
        go_wp2_with fail
        refine (EZ.out _ hd1).mono ?_
        rintro e w' ⟨rfl, rfl⟩
        go_wp2_with fail
        go_ret
        exact ⟨rfl, hd1⟩
      | false =>
        rw [hey] at EY
        have hid := incl_dense hn hez
        obtain ⟨ay, oy, cy, c1, hcy⟩ := hy.dense_
        obtain ⟨az, oz, cz, d1, hcz⟩ := hz.dense_
        have hlz : (cellsOf z).length = (cellsOf y).length := by rw [cellsOf_length, cellsOf_length, hn]
        rw [hlz] at d1 hcz
        have hl81 : (cellsOf y).length ≤ 81 := by
          rw [cellsOf_length]
          have hd := hy.dim
          have h1 : (y.n + 1) * (y.n + 1) ≤ 9 * 9 := Nat.mul_le_mul (by omega) (by omega)
          omega
        obtain ⟨m, hm⟩ : ∃ m, (cellsOf y).length = m := ⟨_, rfl⟩
        rw [hm] at c1 hcy d1 hcz hl81 hid
        obtain ⟨Y, hY⟩ : ∃ Y, cellsOf y = Y := ⟨_, rfl⟩
        obtain ⟨Z, hZ⟩ : ∃ Z, cellsOf z = Z := ⟨_, rfl⟩
        rw [hY] at hcy
        rw [hZ] at hcz
        rw [hY, hZ] at hid
        have C1 := Lib.hid (fun W (hd : Drew w W) => (show W.cell? ⟨a, 1, none⟩ = some (.slice (some ⟨ay, oy, none⟩) m cy) from by rw [← c1]; exact World.cell?_of_block (w := w) (by rw [hd.heap])))
        have D1 := Lib.hid (fun W (hd : Drew w W) => (show W.cell? ⟨b, 1, none⟩ = some (.slice (some ⟨az, oz, none⟩) m cz) from by rw [← d1]; exact World.cell?_of_block (w := w) (by rw [hd.heap])))
        have CY := Lib.hid (fun W (hd : Drew w W) t (ht : t < m) => (show W.cell? ⟨ay, oy + t, none⟩ = some (.int .i32 (gt Y t)) from by rw [← hcy t ht]; exact World.cell?_of_block (w := w) (by rw [hd.heap])))
        have CZ := Lib.hid (fun W (hd : Drew w W) t (ht : t < m) => (show W.cell? ⟨az, oz + t, none⟩ = some (.int .i32 (gt Z t)) from by rw [← hcz t ht]; exact World.cell?_of_block (w := w) (by rw [hd.heap])))
        have HID := Lib.hid hid
        clear hid hcy hcz hlz hm hY hZ hn hez hey c1 d1 hy hz gy gz
        go_enter Try.func171, Try.ntmps171
        go_wp2_with fail
        refine AL.out.mono ?_
        rintro e w1 ⟨rfl, hd1⟩
        have HD1 := Lib.hid hd1
        clear hd1
        go_wp2_with fail
        refine (EZ.out _ HD1.out).mono ?_
        rintro e w' ⟨rfl, rfl⟩
        go_wp2_with fail
        refine (EY.out _ HD1.out).mono ?_
        rintro e w' ⟨rfl, rfl⟩
        go_wp2_with fail
        go_loopw [5] (fun vi wr => ∃ t : Nat, t ≤ m ∧ vi = .int .i64 t ∧ Hid (∀ j, j < t → gt Z j ≤ gt Y j) ∧ Hid (Drew w wr)) (fun vi _ => m - (intOf vi).toNat)
        case atStart => exact ⟨0, Nat.zero_le _, rfl, fun j hj => absurd hj (Nat.not_lt_zero _), HD1⟩
        case round =>
          obtain ⟨t, ht, rfl, HAL, HD⟩ := hrel
          have s1 := C1.out wr HD.out
          have s2 := D1.out wr HD.out
          by_cases htl : t < m
          · have htz : (t : Int) < m := by omega
            have s3 := CY.out wr HD.out t htl
            have s4 := CZ.out wr HD.out t htl
            obtain ⟨p, hp⟩ : ∃ p, gt Y t = p := ⟨_, rfl⟩
            obtain ⟨q, hq⟩ : ∃ q, gt Z t = q := ⟨_, rfl⟩
            rw [hp] at s3
            rw [hq] at s4
            have HP := Lib.hid hp
            have HQ := Lib.hid hq
            clear hp hq
            by_cases hlt : p < q
            · have hno : inclB y z = false := by
                cases h : inclB y z with
                | false => rfl
                | true => have := HID.out.1 h t htl; rw [HP.out, HQ.out] at this; omega
              have HNO := Lib.hid hno
              have hdl : decide (p < q) = true := decide_eq_true hlt
              clear hno
              go_wp2_with fail
              go_quiet (fail)
              go_wp2_with fail
              go_ret
              exact ⟨by rw [HNO.out]; rfl, HD.out.drewN _⟩
            · have hdl : decide (p < q) = false := decide_eq_false hlt
              have HLT := Lib.hid hlt
              go_wp2_with fail
              go_quiet (fail)
              go_wp2_with fail
              refine ⟨⟨t + 1, by omega, by go_num, fun j hj => ?_, HD.out.drewN _⟩, by simp [intOf] <;> omega⟩
              by_cases e : j = t
              · subst e; rw [HP.out, HQ.out]; exact HLT.out
              · exact HAL.out j (by omega)
          · have htz : ¬ (t : Int) < m := by omega
            have hyes : inclB y z = true := HID.out.2 fun j hj => HAL.out j (by omega)
            have HYES := Lib.hid hyes
            clear hyes
            go_wp2_with fail
            go_ret
            exact ⟨by rw [HYES.out]; rfl, HD.out⟩
  · rw [decide_eq_false hn] at AL
    have AL := Lib.hid AL
    have hi : inclB y z = false := by
      cases h : inclB y z with
      | false => rfl
      | true => exact absurd (inclB_iff y z |>.1 h).1 hn
    rw [hi]
    clear hi hn hy hz gy gz
    go_enter Try.func171, Try.ntmps171
    go_wp2_with fail
    refine AL.out.mono ?_
    rintro e w1 ⟨rfl, hd1⟩
    go_wp2_with fail
    go_ret
    exact ⟨rfl, hd1⟩
set_option maxHeartbeats 1000000 in
theorem rsame_any (A B : Option Addr) (c d : Nat) (k l : List Int) (w : World) (hA : Elems w w.heap.size A (k.map (Value.int .u8))) (hB : Elems w w.heap.size B (l.map (Value.int .u8))) (hk : Bytes k) (hl : Bytes l) :
    Calls Try.prog 170 #[.slice A k.length c, .slice B l.length d] w fun e w' => e = .returned (.bool (decide (k = l))) ∧ w = w' := by
  have h1 := run_key hA c
  have h2 := run_key hB d
  have hse : ((strOfNums k).toList == (strOfNums l).toList) = decide (k = l) := by
    rw [← beq_toListBytes, Bool.eq_iff_iff, decide_eq_true_eq, bytes_beq]
    exact ⟨fun e => strOfNums_inj hk hl e, fun e => by rw [e]⟩
  generalize strOfNums k = sk at *
  generalize strOfNums l = sl at *
  generalize decide (k = l) = t at *
  generalize k.length = nk at *
  generalize l.length = nl at *
  clear hA hB hk hl
  go_enter Try.func170, Try.ntmps170
  go_wp2_with fail
  go_ret
  first
    | exact ⟨rfl, rfl⟩
    | (refine ⟨?_, rfl⟩; rw [← hse]; rfl)
end Go.Proofs.Ytapfihlgemejiaa
namespace Go.Proofs.Ytapfihlgemejiaa
open Go.RowKit
/-- Does entry i of a key include a zone? -/
def covB (l : List Ent) (key : List Int) (z : Zn) (i : Nat) : Bool := under l key i && inclB (entAt l i).zone z
theorem firstIn_find (l : List Ent) (key : List Int) (z : Zn) : ∀ r : List Nat, firstIn l z (r.filter (under l key)) = match r.find? (covB l key z) with
    | some i => (i : Int)
    | none => -1
  | [] => rfl
  | i :: r => by
    have ih := firstIn_find l key z r
    rw [List.filter_cons, List.find?_cons]
    unfold covB at ih ⊢
    cases hu : under l key i with
    | false => simpa [hu] using ih
    | true =>
      rw [if_pos rfl]
      cases hi : inclB (entAt l i).zone z with
      | true => rw [firstIn_cons_yes hi]; rfl
      | false => rw [firstIn_cons_no hi]; simpa [hu, hi] using ih
theorem coversS_some {l : List Ent} {key : List Int} {z : Zn} {i : Nat} (hi : i < l.length) (hb : ∀ j, j < i → covB l key z j = false) (h : covB l key z i = true) : coversS l key z = i := by
  unfold coversS idxs
  rw [firstIn_find]
  have : (List.range l.length).find? (covB l key z) = some i := by
    rw [List.find?_eq_some_iff_getElem]
    exact ⟨h, i, by simpa using hi, by simp, fun j hj => by simp [hb j hj]⟩
  rw [this]
theorem coversS_none {l : List Ent} {key : List Int} {z : Zn} (hb : ∀ j, j < l.length → covB l key z j = false) : coversS l key z = -1 := by
  unfold coversS idxs
  rw [firstIn_find]
  have : (List.range l.length).find? (covB l key z) = none := by
    rw [List.find?_eq_none]
    intro j hj
    rw [hb j (List.mem_range.1 hj)]
    decide
  rw [this]
/-- What a walk reads of an entry that the document keeps, from here on. -/
theorem RStoreIn.entD {base : Nat} {w : World} {rs : Nat} {s : Sto} {A : Option Addr} {c : Nat} (h : RStoreIn base w rs s A c) (i : Nat) (hi : i < s.ents.length) : ∃ pe, A = some ⟨pe, 0, none⟩ ∧ ∃ e : Ent, e = entAt s.ents i ∧ REntOk w e ∧
    w.cell? ⟨pe, i * 5, none⟩ = some (.slice (addrOf e.ka) e.key.length e.kc) ∧ w.cell? ⟨pe, i * 5 + 1, none⟩ = some (.pointer (some ⟨e.zb, 0, none⟩)) ∧
      w.cell? ⟨pe, i * 5 + 2, none⟩ = some (.bool (waitsB e)) ∧ w.cell? ⟨pe, i * 5 + 3, none⟩ = some (.bool e.gone) := by
  obtain ⟨pe, hA, _, _, h0, h1, h2, h3, _⟩ := h.ent i hi
  exact ⟨pe, hA, _, rfl, h.entOk i hi, h0, h1, h2, h3⟩
set_option maxRecDepth 100000 in
set_option maxHeartbeats 4000000 in
theorem rcovers_any {base : Nat} {rs : Nat} {s : Sto} (w : World) (h : RStoreAt base w rs s) (A0 : Option Addr) (c0 : Nat) (key : List Int) (hk : Elems w w.heap.size A0 (key.map (Value.int .u8))) (hby : Bytes key)
    (zb : Nat) (z : Zn) (hz : RefAt w zb z) (gz : ZGood z) :
    Calls Try.prog 134 #[.pointer (some ⟨rs, 0, none⟩), .slice A0 key.length c0, .pointer (some ⟨zb, 0, none⟩)] w fun e w' => e = .returned (.int .i64 (coversS s.ents key z)) ∧ Drew w w' := by
  obtain ⟨A, c, h⟩ := h
  have hfew := h.ok.few
  have HI := Lib.hid h
  have HK := Lib.hid hk
  have HBY := Lib.hid hby
  have HZ := Lib.hid hz
  have HG := Lib.hid gz
  obtain ⟨L, hL⟩ : ∃ L, s.ents.length = L := ⟨_, rfl⟩
  have HL := Lib.hid hL
  rw [hL] at hfew
  obtain ⟨nk, hnk⟩ : ∃ nk, key.length = nk := ⟨_, rfl⟩
  have HNK := Lib.hid hnk
  rw [hnk]
  clear h hk hby hz gz hL hnk
  go_enter Try.func134, Try.ntmps134
  go_wp2_with fail
  go_loopw [7] (fun vi wr => ∃ i : Nat, i ≤ L ∧ vi = .int .i64 i ∧ Hid (∀ j, j < i → covB s.ents key z j = false) ∧ Hid (Drew w wr)) (fun vi _ => L - (intOf vi).toNat)
  case atStart => exact ⟨0, Nat.zero_le _, rfl, fun j hj => absurd hj (Nat.not_lt_zero _), Drew.refl w⟩
  case round =>
    obtain ⟨i, hi, rfl, HB, HD⟩ := hrel
    have hst := HI.out.keep_new HD.out.new
    obtain ⟨h0, _, _⟩ := hst.cells
    rw [HL.out] at h0
    by_cases hil : i < L
    · have hiz : (i : Int) < L := by omega
      obtain ⟨pe, hA, e, he, hok, e0, e1, _, e3⟩ := hst.entD i (by rw [HL.out]; exact hil)
      subst hA
      have hcov : covB s.ents key z i = (decide (e.key = key) && !e.gone && inclB e.zone z) := by rw [he]; rfl
      have hsame := rsame_any (addrOf e.ka) A0 e.kc c0 e.key key wr hok.key.elems ((HK.out.new HD.out.new (Nat.le_refl _)).mono HD.out.new.size) hok.bytes HBY.out
      have hinc := rincludes_any e.zb zb e.zone z wr hok.zone (HZ.out.new HD.out.new) hok.good HG.out
      rw [HNK.out] at hsame
      generalize addrOf e.ka = ka at *
      generalize e.key.length = ne at *
      generalize e.kc = kc at *
      generalize e.zb = eb at *
      generalize decide (e.key = key) = bk at *
      generalize inclB e.zone z = bi at *
      generalize e.gone = bg at *
      have HS := Lib.hid hsame
      have HN := Lib.hid hinc
      have HC := Lib.hid hcov
      clear hst hok hsame hinc hcov he
      have hnext : ∀ W, Drew wr W → covB s.ents key z i = false → (∃ i' : Nat, i' ≤ L ∧ Value.int .i64 ((i : Int) + 1) = .int .i64 i' ∧ Hid (∀ j, j < i' → covB s.ents key z j = false) ∧ Hid (Drew w W)) := fun W hW hc =>
        ⟨i + 1, by omega, by go_num, fun j hj => by
          by_cases e : j = i
          · subst e; exact hc
          · exact HB.out j (by omega), HD.out.trans hW⟩
      have HNX := Lib.hid hnext
      clear hnext
      cases bg with
      | true =>
        go_wp2_with fail
        exact ⟨HNX.out _ (Drew.refl _) (by rw [HC.out]; simp), by simp [intOf] <;> omega⟩
      | false =>
        cases bk with
        | false =>
          go_wp2_with fail
          refine HS.out.mono ?_
          rintro e w' ⟨rfl, rfl⟩
          go_wp2_with fail
          exact ⟨HNX.out _ (Drew.refl _) (by rw [HC.out]; simp), by simp [intOf] <;> omega⟩
        | true =>
          go_wp2_with fail
          refine HS.out.mono ?_
          rintro e w' ⟨rfl, rfl⟩
          go_wp2_with fail
          refine HN.out.mono ?_
          rintro e w2 ⟨rfl, hd2⟩
          cases bi with
          | false =>
            go_wp2_with fail
            exact ⟨HNX.out _ hd2 (by rw [HC.out]; simp), by simp [intOf] <;> omega⟩
          | true =>
            have HR := Lib.hid (coversS_some (by rw [HL.out]; exact hil) HB.out (show covB s.ents key z i = true by rw [HC.out]; rfl))
            go_wp2_with fail
            go_ret
            exact ⟨by rw [HR.out]; rfl, HD.out.trans hd2⟩
    · have hiz : ¬ (i : Int) < L := by omega
      have HR := Lib.hid (coversS_none (fun j hj => HB.out j (by have := HL.out; omega)))
      clear hst
      go_wp2_with fail
      go_ret
      exact ⟨by rw [HR.out]; rfl, HD.out⟩
set_option maxHeartbeats 400000 in
theorem rcovers_nil (rs : Addr) (k : Value) (w : World) : Calls Try.prog 134 #[.pointer (some rs), k, .pointer none] w fun e w' => e = .returned (.int .i64 (-1)) ∧ w = w' := by
  go_enter Try.func134, Try.ntmps134
  go_wp2
  go_ret
  exact ⟨rfl, rfl⟩
set_option maxRecDepth 100000 in
set_option maxHeartbeats 4000000 in
theorem rof_key {base : Nat} {rs : Nat} {s : Sto} (w : World) (h : RStoreAt base w rs s) (A0 : Option Addr) (c0 : Nat) (key : List Int) (hk : Elems w w.heap.size A0 (key.map (Value.int .u8))) (hby : Bytes key) :
    Calls Try.prog 133 #[.pointer (some ⟨rs, 0, none⟩), .slice A0 key.length c0] w fun e w' => ∃ v, e = .returned v ∧ w'.ownsRow w.heap.size 3 1 v (idxs s.ents key).length (nats (idxs s.ents key)) ∧ New w w' := by
  obtain ⟨i0, hi0, hz0, hz1, hz2⟩ := info_parts infoOf3
  obtain ⟨A, c, h⟩ := h
  have hfew := h.ok.few
  have HI := Lib.hid h
  have HK := Lib.hid hk
  have HBY := Lib.hid hby
  obtain ⟨L, hL⟩ : ∃ L, s.ents.length = L := ⟨_, rfl⟩
  have HL := Lib.hid hL
  have HALL : Hid (idxs s.ents key = (List.range L).filter (under s.ents key)) := by show _ = _; rw [← hL]; rfl
  rw [hL] at hfew
  obtain ⟨nk, hnk⟩ : ∃ nk, key.length = nk := ⟨_, rfl⟩
  have HNK := Lib.hid hnk
  rw [hnk]
  obtain ⟨ix, hix⟩ : ∃ ix, idxs s.ents key = ix := ⟨_, rfl⟩
  rw [hix] at HALL ⊢
  clear h hk hby hL hnk hix
  go_enter Try.func133, Try.ntmps133
  go_wp2_with fail
  go_loopw [5, 6] (fun v vi wr => ∃ i : Nat, i ≤ L ∧ vi = .int .i64 i ∧ Hid (wr.ownsRow w.heap.size 3 1 v ((List.range i).filter (under s.ents key)).length (nats ((List.range i).filter (under s.ents key)))) ∧ Hid (New w wr)) (fun _ vi _ => L - (intOf vi).toNat)
  case atStart => exact ⟨0, Nat.zero_le _, by go_num, World.ownsRow_nil _ _ _ _, New.refl w⟩
  case round =>
    obtain ⟨i, hi, rfl, HO, HN⟩ := hrel
    have hst := HI.out.keep_new HN.out
    obtain ⟨h0, _, _⟩ := hst.cells
    rw [HL.out] at h0
    by_cases hil : i < L
    · have hiz : (i : Int) < L := by omega
      obtain ⟨pe, hA, e, he, hok, e0, _, _, e3⟩ := hst.entD i (by rw [HL.out]; exact hil)
      subst hA
      have hun : under s.ents key i = (decide (e.key = key) && !e.gone) := by rw [he]; rfl
      have hsame := rsame_any (addrOf e.ka) A0 e.kc c0 e.key key wr hok.key.elems ((HK.out.new HN.out (Nat.le_refl _)).mono HN.out.size) hok.bytes HBY.out
      rw [HNK.out] at hsame
      generalize addrOf e.ka = ka at *
      generalize e.key.length = ne at *
      generalize e.kc = kc at *
      generalize decide (e.key = key) = bk at *
      generalize e.gone = bg at *
      have HS := Lib.hid hsame
      have HU := Lib.hid hun
      have hsu : (List.range (i + 1)).filter (under s.ents key) = (List.range i).filter (under s.ents key) ++ if under s.ents key i = true then [i] else [] := by
        rw [List.range_succ, List.filter_append]
        simp [List.filter_cons]
      have hlen : ((List.range i).filter (under s.ents key)).length ≤ i := Nat.le_trans (List.length_filter_le _ _) (by simp)
      obtain ⟨S, hS⟩ : ∃ S, (List.range i).filter (under s.ents key) = S := ⟨_, rfl⟩
      rw [hS] at hsu hlen HO
      have HSU := Lib.hid hsu
      clear hst hok hsame hun he hsu hS
      cases bg with
      | true =>
        have HN2 : Hid ((List.range (i + 1)).filter (under s.ents key) = S) := by show _ = _; rw [HSU.out, HU.out]; simp
        go_wp2_with fail
        exact ⟨⟨i + 1, by omega, by go_num, (by show World.ownsRow _ _ _ _ _ _ _; rw [HN2.out]; exact HO.out), HN⟩, by simp [intOf] <;> omega⟩
      | false =>
        cases bk with
        | false =>
          have HN2 : Hid ((List.range (i + 1)).filter (under s.ents key) = S) := by show _ = _; rw [HSU.out, HU.out]; simp
          go_wp2_with fail
          refine HS.out.mono ?_
          rintro e w' ⟨rfl, rfl⟩
          go_wp2_with fail
          exact ⟨⟨i + 1, by omega, by go_num, (by show World.ownsRow _ _ _ _ _ _ _; rw [HN2.out]; exact HO.out), HN⟩, by simp [intOf] <;> omega⟩
        | true =>
          have HN2 : Hid ((List.range (i + 1)).filter (under s.ents key) = S ++ [i]) := by show _ = _; rw [HSU.out, HU.out]; simp
          have hN5 := (New.refl wr).alloc (.cells #[.int .i64 (i : Int)] 3)
          have HOWN := Lib.hid (own_new HO.out hN5)
          have HEL := Lib.hid (elems_new wr 3 (.int .i64 (i : Int)))
          have HSZ := Lib.hid (Nat.le_trans HN.out.size hN5.size)
          have HN5 := Lib.hid hN5
          clear hN5
          go_wp2_with fail
          refine HS.out.mono ?_
          rintro e w' ⟨rfl, rfl⟩
          go_wp2_with (at_builtin; (refine wpList_append_elems rfl _ _ 25 rfl w.heap.size 3 i0 (.int .i64 0) 1 8 Try.underlying25 hi0 hz0 hz1 hz2 rfl (by decide) _ S.length _ (by rfl) HOWN.out _ _ 1 1 _ (by rfl) HEL.out rfl ?c1 ?c2 ?c3 HSZ.out ?_))
          case c1 => first | rfl | (intro y hy; simp at hy; subst hy; rfl)
          case c2 => unfold maxLen; omega
          case c3 => omega
          intro v' w' ho' hg' hb'
          have hF := Fr.of_grown (S := fun k => Value.ownBlock _ = some k) hg' (fun k hk _ => hk)
          have hN3 : New w w' := Fr.then (HN.out.trans HN5.out) hF (fun _ _ e => e) (fun k hk e => by
            have h1 := (own_row HOWN.out e).1
            omega)
          have HO' := Lib.hid ho'
          clear ho' hg' hb' hF
          go_wp2_with fail
          refine ⟨⟨i + 1, by omega, by go_num, ?_, hN3⟩, by simp [intOf] <;> omega⟩
          show World.ownsRow _ _ _ _ _ _ _
          rw [HN2.out, List.length_append, ← nats_snoc]
          exact HO'.out
    · have hiz : ¬ (i : Int) < L := by omega
      have hie : i = L := by omega
      have h1 := HO.out
      rw [hie, ← HALL.out] at h1
      have HO2 := Lib.hid h1
      clear h1 hie hst
      go_wp2_with fail
      go_ret
      exact ⟨_, rfl, HO2.out, HN.out⟩
/-- The first i entries in the order in which they are looked at, those that wait. -/
def lookK (s : Sto) (i : Nat) : Nat := if s.last then s.ents.length - 1 - i else i
def lookL (s : Sto) (i : Nat) : List Nat := ((List.range i).map (lookK s)).filter fun k => waitsB (entAt s.ents k)
theorem lookL_succ (s : Sto) (i : Nat) : lookL s (i + 1) = lookL s i ++ if waitsB (entAt s.ents (lookK s i)) = true then [lookK s i] else [] := by
  unfold lookL
  rw [List.range_succ, List.map_append, List.filter_append]
  simp [List.filter_cons]
theorem lookL_all (s : Sto) : lookL s s.ents.length = waitS s := by
  unfold lookL waitS
  cases hl : s.last with
  | false =>
    rw [if_neg (by decide)]
    congr 1
    have : ∀ x, lookK s x = x := fun x => by unfold lookK; rw [hl]; rfl
    rw [List.map_congr_left (g := id) (fun x _ => this x), List.map_id]
  | true =>
    rw [if_pos rfl, ← List.filter_reverse]
    congr 1
    apply List.ext_getElem (by simp)
    intro i h1 h2
    simp only [List.length_map, List.length_range] at h1
    rw [List.getElem_map, List.getElem_range, List.getElem_reverse, List.getElem_range]
    unfold lookK
    rw [hl, if_pos rfl]
    simp
theorem lookL_le (s : Sto) (i : Nat) : (lookL s i).length ≤ i := by
  unfold lookL
  exact Nat.le_trans (List.length_filter_le _ _) (by simp)
set_option maxRecDepth 100000 in
set_option maxHeartbeats 4000000 in
theorem rwaiting_any {base : Nat} {rs : Nat} {s : Sto} (w : World) (h : RStoreAt base w rs s) :
    Calls Try.prog 132 #[.pointer (some ⟨rs, 0, none⟩)] w fun e w' => ∃ v, e = .returned v ∧ w'.ownsRow w.heap.size 3 1 v (waitS s).length (nats (waitS s)) ∧ New w w' := by
  obtain ⟨i0, hi0, hz0, hz1, hz2⟩ := info_parts infoOf3
  obtain ⟨A, c, h⟩ := h
  have hfew := h.ok.few
  have HI := Lib.hid h
  obtain ⟨L, hL⟩ : ∃ L, s.ents.length = L := ⟨_, rfl⟩
  have HL := Lib.hid hL
  have HALL : Hid (waitS s = lookL s L) := by show _ = _; rw [← hL]; exact (lookL_all s).symm
  rw [hL] at hfew
  obtain ⟨ix, hix⟩ : ∃ ix, waitS s = ix := ⟨_, rfl⟩
  rw [hix] at HALL ⊢
  clear h hL hix
  go_enter Try.func132, Try.ntmps132
  go_wp2_with fail
  go_loopw [3, 4] (fun v vi wr => ∃ i : Nat, i ≤ L ∧ vi = .int .i64 i ∧ Hid (wr.ownsRow w.heap.size 3 1 v (lookL s i).length (nats (lookL s i))) ∧ Hid (New w wr)) (fun _ vi _ => L - (intOf vi).toNat)
  case atStart => exact ⟨0, Nat.zero_le _, by go_num, World.ownsRow_nil _ _ _ _, New.refl w⟩
  case round =>
    obtain ⟨i, hi, rfl, HO, HN⟩ := hrel
    have hst := HI.out.keep_new HN.out
    obtain ⟨h0, hl0, _⟩ := hst.cells
    rw [HL.out] at h0
    by_cases hil : i < L
    · have hiz : (i : Int) < L := by omega
      have hlk : lookK s i < s.ents.length := by unfold lookK; rw [HL.out]; split <;> omega
      have hkL : lookK s i < L := by rw [← HL.out]; exact hlk
      obtain ⟨pe, hA, e, he, hok, _, _, e2, _⟩ := hst.entD (lookK s i) hlk
      subst hA
      have hsu := lookL_succ s i
      rw [← he] at hsu
      have hlen := lookL_le s i
      obtain ⟨S, hS⟩ : ∃ S, lookL s i = S := ⟨_, rfl⟩
      rw [hS] at hsu hlen HO
      have hkv : ∀ b, s.last = b → lookK s i = if b then L - 1 - i else i := fun b hb => by unfold lookK; rw [hb, HL.out]
      obtain ⟨k, hke⟩ : ∃ k, lookK s i = k := ⟨_, rfl⟩
      rw [hke] at e2 hsu hkv hkL
      generalize waitsB e = bw at *
      have HSU := Lib.hid hsu
      clear hst hok he hsu hS hlk hke
      have fin : ∀ W : World, bw = false → Hid ((lookL s (i + 1)) = S) := fun _ hb => by show _ = _; rw [HSU.out, hb]; simp
      have FIN := Lib.hid (fin w)
      clear fin
      have goal_no : bw = false → (∃ i' : Nat, i' ≤ L ∧ Value.int .i64 ((i : Int) + 1) = .int .i64 i' ∧ Hid (wr.ownsRow w.heap.size 3 1 u3 (lookL s i').length (nats (lookL s i'))) ∧ Hid (New w wr)) := fun hb =>
        ⟨i + 1, by omega, by go_num, (by show World.ownsRow _ _ _ _ _ _ _; rw [(FIN.out hb).out]; exact HO.out), HN⟩
      have GNO := Lib.hid goal_no
      have HYES : Hid (bw = true → lookL s (i + 1) = S ++ [k]) := fun hb => by rw [HSU.out, hb]; simp
      have hN5 := (New.refl wr).alloc (.cells #[.int .i64 (k : Int)] 3)
      have HOWN := Lib.hid (own_new HO.out hN5)
      have HEL := Lib.hid (elems_new wr 3 (.int .i64 (k : Int)))
      have HSZ := Lib.hid (Nat.le_trans HN.out.size hN5.size)
      have HN5 := Lib.hid hN5
      clear hN5 goal_no FIN
      cases hlb : s.last with
      | false =>
        rw [hlb] at hl0
        have hk2 := hkv _ hlb
        rw [if_neg (by decide)] at hk2
        subst hk2
        clear hkv hlb
        cases bw with
        | false =>
          go_wp2_with fail
          exact ⟨GNO.out rfl, by simp [intOf] <;> omega⟩
        | true =>
          go_wp2_with (at_builtin; (refine wpList_append_elems rfl _ _ 25 rfl w.heap.size 3 i0 (.int .i64 0) 1 8 Try.underlying25 hi0 hz0 hz1 hz2 rfl (by decide) _ S.length _ (by rfl) HOWN.out _ _ 1 1 _ (by rfl) HEL.out rfl ?c1 ?c2 ?c3 HSZ.out ?_))
          case c1 => first | rfl | (intro y hy; simp at hy; subst hy; rfl)
          case c2 => unfold maxLen; omega
          case c3 => omega
          intro v' w' ho' hg' hb'
          have hF := Fr.of_grown (S := fun k => Value.ownBlock _ = some k) hg' (fun k hk _ => hk)
          have hN3 : New w w' := Fr.then (HN.out.trans HN5.out) hF (fun _ _ e => e) (fun k hk e => by
            have h1 := (own_row HOWN.out e).1
            omega)
          have HO' := Lib.hid ho'
          clear ho' hg' hb' hF
          go_wp2_with fail
          refine ⟨⟨k + 1, by omega, by go_num, ?_, hN3⟩, by simp [intOf] <;> omega⟩
          show World.ownsRow _ _ _ _ _ _ _
          rw [HYES.out (by trivial), List.length_append, ← nats_snoc]
          exact HO'.out
      | true =>
        rw [hlb] at hl0
        have hk2 := hkv _ hlb
        rw [if_pos rfl] at hk2
        have hkz : (L : Int) - 1 - (i : Int) = (k : Int) := by omega
        have hwz : IntKind.i64.wrap ((L : Int) - 1) = (L : Int) - 1 := by rw [IntKind.wrap_i64]; omega
        have hwz2 : IntKind.i64.wrap ((L : Int) - 1 - (i : Int)) = (k : Int) := by rw [hkz, IntKind.wrap_i64]; omega
        have hkLz : (k : Int) < L := by omega
        clear hkv hlb hk2 hkz
        cases bw with
        | false =>
          go_wp2_with fail
          exact ⟨GNO.out rfl, by simp [intOf] <;> omega⟩
        | true =>
          go_wp2_with (at_builtin; (refine wpList_append_elems rfl _ _ 25 rfl w.heap.size 3 i0 (.int .i64 0) 1 8 Try.underlying25 hi0 hz0 hz1 hz2 rfl (by decide) _ S.length _ (by rfl) HOWN.out _ _ 1 1 _ (by rfl) HEL.out rfl ?c1 ?c2 ?c3 HSZ.out ?_))
          case c1 => first | rfl | (intro y hy; simp at hy; subst hy; rfl)
          case c2 => unfold maxLen; omega
          case c3 => omega
          intro v' w' ho' hg' hb'
          have hF := Fr.of_grown (S := fun k => Value.ownBlock _ = some k) hg' (fun k hk _ => hk)
          have hN3 : New w w' := Fr.then (HN.out.trans HN5.out) hF (fun _ _ e => e) (fun k hk e => by
            have h1 := (own_row HOWN.out e).1
            omega)
          have HO' := Lib.hid ho'
          clear ho' hg' hb' hF
          go_wp2_with fail
          refine ⟨⟨i + 1, by omega, by go_num, ?_, hN3⟩, by simp [intOf] <;> omega⟩
          show World.ownsRow _ _ _ _ _ _ _
          rw [HYES.out (by trivial), List.length_append, ← nats_snoc]
          exact HO'.out
    · have hiz : ¬ (i : Int) < L := by omega
      have hie : i = L := by omega
      have h1 := HO.out
      rw [hie, ← HALL.out] at h1
      have HO2 := Lib.hid h1
      clear h1 hie hst
      go_wp2_with fail
      go_ret
      exact ⟨_, rfl, HO2.out, HN.out⟩
end Go.Proofs.Ytapfihlgemejiaa
