/- Walks over package passed: New, Len, Covers. -/
import Derived.Test.YtapfihlgemejiaaVS0
namespace Go.Proofs.Ytapfihlgemejiaa
open Go.RowKit
def newSto (last : Bool) : Sto := { last := last, ents := [], tk := 0 }

set_option maxHeartbeats 400000 in
theorem new_any (last : Bool) (base : Nat) (w : World) (hb : base ≤ w.heap.size) :
    Calls Try.prog 20 #[.bool last] w fun e w' => e = .returned (.pointer (some ⟨w.heap.size + 1, 0, none⟩)) ∧ StoreAt base w' (w.heap.size + 1) (newSto last) ∧ New w w' := by
  have hmm := @run_makeMap Try.prog
  go_enter Try.func20, Try.ntmps20
  go_wp2
  go_ret
  have hn : New w ((w.alloc (.map #[] 0)).alloc (.cells #[.bool last, .slice none 0 0, .map (some w.heap.size), .int .i64 0] 141)) := ((New.refl w).alloc _).alloc _
  have hn1 : New (w.alloc (.map #[] 0)) ((w.alloc (.map #[] 0)).alloc (.cells #[.bool last, .slice none 0 0, .map (some w.heap.size), .int .i64 0] 141)) := (New.refl _).alloc _
  have hr : Row ((w.alloc (.map #[] 0)).alloc (.cells #[.bool last, .slice none 0 0, .map (some w.heap.size), .int .i64 0] 141)) (w.heap.size + 1) 141 [.bool last, .slice none 0 0, .map (some w.heap.size), .int .i64 0] := by
    have := Row.new (w.alloc (.map #[] 0)) 141 [.bool last, .slice none 0 0, .map (some w.heap.size), .int .i64 0]
    rwa [World.size_alloc] at this
  refine ⟨rfl, ⟨none, 0, w.heap.size, [], ?_⟩, hn⟩
  exact { row := hr, own := World.ownsRow_nil _ _ _ _, map := (MapAt.made w).fr hn1 (fun e => e),
          of := fun key _ => ⟨none, 0, rfl, ElemsT.nil _ _ _⟩, ents := (fun e he => by cases he), ok := ⟨by simp [newSto], rfl⟩, low := by omega, lowm := hb }

set_option maxHeartbeats 400000 in
theorem len_any {base : Nat} {ps : Nat} {s : Sto} (w : World) (h : StoreAt base w ps s) :
    Calls Try.prog 23 #[.pointer (some ⟨ps, 0, none⟩)] w fun e w' => e = .returned (.int .i64 s.ents.length) ∧ w = w' := by
  obtain ⟨A, c, pm, ml, h⟩ := h
  obtain ⟨_, h1, _, _⟩ := h.cells
  clear h
  go_enter Try.func23, Try.ntmps23
  go_wp2
  go_ret
  exact ⟨rfl, rfl⟩
theorem zero25_run (w : World) : (zeroValue 25).run Try.prog w = .ok (.slice none 0 0) w := by kernel_rfl

/-- The list that the map shows for a key. -/
theorem StoreIn.list {base : Nat} {w : World} {ps : Nat} {s : Sto} {A : Option Addr} {c pm : Nat} {ml : List (ByteArray × Value)} (h : StoreIn base w ps s A c pm ml) (key : List Int) (hk : Bytes key) :
    ∃ A' c', (∀ k, (Instr.lookup 138 (.map (some pm)) (.string (strOfNums key)) false).run Try.prog (w.drewN k) = .ok (.slice A' (idxs s.ents key).length c') (w.drewN k)) ∧
      ElemsT w 3 A' ((idxs s.ents key).map fun i : Nat => Value.int .i64 i) := by
  obtain ⟨A', c', h1, h2⟩ := h.of key hk
  refine ⟨A', c', fun k => ?_, h2⟩
  rw [run_lookup_string (h.map.fr ((New.refl w).drewN k) (fun e => e)) 138 9 25 Try.underlying138 Try.underlying9 _ (zero25_run _), h1]

theorem firstIn_cons_yes {l : List Ent} {z : Zn} {i : Nat} {r : List Nat} (h : inclB (entAt l i).zone z = true) : firstIn l z (i :: r) = i := by unfold firstIn; rw [if_pos h]
theorem firstIn_cons_no {l : List Ent} {z : Zn} {i : Nat} {r : List Nat} (h : inclB (entAt l i).zone z = false) : firstIn l z (i :: r) = firstIn l z r := by
  show (if inclB (entAt l i).zone z then (i : Int) else firstIn l z r) = _
  rw [if_neg (by rw [h]; decide)]
theorem drop_getD {l : List Nat} {k : Nat} (h : k < l.length) : l.drop k = l.getD k 0 :: l.drop (k + 1) := by
  rw [List.drop_eq_getElem_cons h, List.getD_eq_getElem?_getD, List.getElem?_eq_getElem h]; rfl
theorem ElemsT.nats {w : World} {A : Option Addr} {l : List Nat} (h : ElemsT w 3 A (l.map fun i : Nat => Value.int .i64 i)) (k : Nat) (hk : k < l.length) :
    ∃ b off, A = some ⟨b, off, none⟩ ∧ b < w.heap.size ∧ w.cell? ⟨b, off + k, none⟩ = some (.int .i64 (l.getD k 0 : Nat)) := by
  obtain ⟨b, off, e, hb, hc⟩ := h.elems (by simp; omega)
  refine ⟨b, off, e, hb, hc k _ ?_⟩
  rw [List.getElem?_map, List.getElem?_eq_getElem hk, List.getD_eq_getElem?_getD, List.getElem?_eq_getElem hk]; rfl

set_option maxRecDepth 100000 in
set_option maxHeartbeats 1000000 in
theorem covers_any {base : Nat} {ps : Nat} {s : Sto} (w : World) (h : StoreAt base w ps s) (A0 : Option Addr) (c0 : Nat) (key : List Int) (hk : Elems w w.heap.size A0 (key.map (Value.int .u8))) (hby : Bytes key)
    (zb : Nat) (z : Zn) (hz : ZoneAt w zb z) :
    Calls Try.prog 27 #[.pointer (some ⟨ps, 0, none⟩), .slice A0 key.length c0, .pointer (some ⟨zb, 0, none⟩)] w fun e w' => e = .returned (.int .i64 (coversS s.ents key z)) ∧ Drew w w' := by
  obtain ⟨A, c, pm, ml, h⟩ := h
  obtain ⟨A', c', hlk, hl⟩ := h.list key hby
  obtain ⟨_, h1, h2, _⟩ := h.cells
  have hcv : ∀ k, (convert 30 9 (.slice A0 key.length c0)).run Try.prog (w.drewN k) = .ok (.string (strOfNums key)) (w.drewN k) := fun k =>
    run_key (hk.keep (w' := w.drewN k) fun b _ => rfl) c0
  have hlen := idxs_length_le s.ents key
  have hfew := h.ok.few
  have HI := Lib.hid h
  have HL := Lib.hid hl
  have HZ := Lib.hid hz
  have hcov : coversS s.ents key z = firstIn s.ents z ((idxs s.ents key).drop 0) := rfl
  have HC := Lib.hid hcov
  have hmem := fun k (hk : k < (idxs s.ents key).length) => idxs_get_lt k hk
  have HM := Lib.hid hmem
  clear h hl hz hk hcov hmem
  generalize hidx : idxs s.ents key = l at *
  clear hidx
  go_enter Try.func27, Try.ntmps27
  go_wp2_with fail
  go_quiet (fail)
  go_wp2_with fail
  have hd0 : Drew w (w.drewN nq) := ⟨nq, rfl⟩
  clear hlk hcv h1 h2
  generalize w.drewN nq = w1 at *
  go_loopw [19] (fun cn wr => ∃ k : Nat, k ≤ l.length ∧ cn = .int .i64 k ∧ Drew w wr ∧ coversS s.ents key z = firstIn s.ents z (l.drop k))
    (fun cn _ => l.length - (intOf cn).toNat)
  case atStart => exact ⟨0, by omega, rfl, hd0, HC.out⟩
  case round =>
    obtain ⟨k, hk, rfl, hd, hco⟩ := hrel
    clear hd0
    have HCO := Lib.hid hco
    clear hco
    by_cases hlt : k < l.length
    · have hl1 := HL.out.keeps hd.keeps (by decide) (by decide)
      obtain ⟨b, off, rfl, hbl, hc1⟩ := hl1.nats k hlt
      have hst := HI.out.keep_new hd.new
      have hi := HM.out k hlt
      obtain ⟨pe, rfl, _, _, hc2, _⟩ := hst.ent _ hi
      obtain ⟨_, h1, _, _⟩ := hst.cells
      have hze := (hst.entOk _ hi).zone
      have hinc := includes_any (entAt s.ents (l.getD k 0)).zb zb (entAt s.ents (l.getD k 0)).zone z wr hze (HZ.out.of_drew hd)
      have HINC := Lib.hid hinc
      have hdr := drop_getD hlt
      have HDR := Lib.hid hdr
      clear hst hze hinc hl1 hdr
      generalize l.getD k 0 = i at *
      have hii : (i : Int) < s.ents.length := by omega
      go_wp2_with fail
      refine HINC.out.mono ?_
      rintro e w2 ⟨rfl, n, rfl⟩
      clear hc1 hc2 h1
      cases hq : inclB (entAt s.ents i).zone z with
      | true =>
        have hres : coversS s.ents key z = i := by rw [HCO.out, HDR.out, firstIn_cons_yes hq]
        have HRES := Lib.hid hres
        clear hres hq
        go_wp2
        go_ret
        rw [HRES.out]
        exact ⟨rfl, hd.drewN n⟩
      | false =>
        have hres : coversS s.ents key z = firstIn s.ents z (l.drop (k + 1)) := by rw [HCO.out, HDR.out, firstIn_cons_no hq]
        have HRES := Lib.hid hres
        clear hres hq
        go_wp2
        exact ⟨⟨k + 1, by omega, by go_num, hd.drewN n, HRES.out⟩, by simp [intOf]; omega⟩
    · have : k = l.length := by omega
      subst this
      have hres : coversS s.ents key z = -1 := by rw [HCO.out, List.drop_length]; rfl
      have HRES := Lib.hid hres
      clear hres
      go_wp2
      go_ret
      rw [HRES.out]
      exact ⟨rfl, hd⟩
end Go.Proofs.Ytapfihlgemejiaa
