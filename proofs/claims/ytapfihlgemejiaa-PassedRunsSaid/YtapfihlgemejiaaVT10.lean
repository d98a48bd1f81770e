/- A step of both stores: what each part of it does, with a zone or none. -/
import Derived.Test.YtapfihlgemejiaaVT9
import Derived.Test.YtapfihlgemejiaaVS4
namespace Go.Proofs.Ytapfihlgemejiaa
open Go.RowKit
/-- A zone of the program's, or nil. -/
def ZP (w : World) (v : Value) : Option Zn → Prop
  | none => v = .pointer none
  | some z => ∃ b, v = .pointer (some ⟨b, 0, none⟩) ∧ ZoneAt w b z
/-- A zone of the document's, or nil. -/
def ZRf (w : World) (v : Value) : Option Zn → Prop
  | none => v = .pointer none
  | some z => ∃ b, v = .pointer (some ⟨b, 0, none⟩) ∧ RefAt w b z ∧ ZGood z
def covO (l : List Ent) (key : List Int) : Option Zn → Int
  | none => -1
  | some z => coversS l key z
/-- All but lists of bytes is as it was. -/
def KeepB (w w' : World) : Prop := ∀ (g : Nat) (o : Obj), w.heap[g]? = some o → (∀ cs fr, o ≠ .cells cs 5 fr) → w'.heap[g]? = w.heap[g]?
theorem KeepB.cells {w w' : World} (h : KeepB w w') {g : Nat} {cs : Array Value} {t : TypeId} {fr : Nat × Nat} (hg : w.heap[g]? = some (.cells cs t fr)) (h1 : t ≠ 5) : w'.heap[g]? = w.heap[g]? :=
  h g _ hg fun cs' fr' e => by injection e with _ e _; exact h1 e
theorem At.keepB {a b : World} {g : Nat} {cs : List Value} (h : At g a b) (hr : Row a g 5 cs) : KeepB a b := fun k o hk ho => h.block k (Array.getElem?_eq_some_iff.1 hk).1 (fun e => by
  have e : k = g := e
  subst e
  have h2 : a.heap[k]? = some (.cells cs.toArray 5 (0, 0)) := hr
  rw [h2] at hk; injection hk with hk; exact ho _ _ hk.symm)
theorem ElemsT.keepB {w w' : World} {t : TypeId} {A : Option Addr} {xs : List Value} (h : ElemsT w t A xs) (hk : KeepB w w') (h1 : t ≠ 5) : ElemsT w' t A xs := fun hl => by
  obtain ⟨b, off, cs, fr, e, hb, hc⟩ := h hl
  exact ⟨b, off, cs, fr, e, (hk.cells hb h1).trans hb, hc⟩
theorem ZoneAt.keepB {w w' : World} {b : Nat} {z : Zn} (h : ZoneAt w b z) (hk : KeepB w w') : ZoneAt w' b z := ⟨(hk.cells h.row (by decide)).trans h.row, h.len, h.dim⟩
theorem RefAt.keepB {w w' : World} {b : Nat} {z : Zn} (h : RefAt w b z) (hk : KeepB w w') : RefAt w' b z := by
  obtain ⟨A, c, h1, h2⟩ := h.row
  exact ⟨⟨A, c, (hk.cells h1 (by decide)).trans h1, h2.keepB hk (by decide)⟩, h.dim, h.len⟩
theorem MapAt.keepB {w w' : World} {b : Nat} {l : List (ByteArray × Value)} (h : MapAt w b l) (hk : KeepB w w') : MapAt w' b l := by
  obtain ⟨es, clock, h1, h2⟩ := h
  exact ⟨es, clock, (hk b _ h1 fun cs fr e => by cases e).trans h1, h2⟩
theorem ZP.new {w w' : World} {v : Value} {o : Option Zn} (h : ZP w v o) (hn : New w w') : ZP w' v o := by
  cases o with
  | none => exact h
  | some z => obtain ⟨b, h1, h2⟩ := h; exact ⟨b, h1, h2.new hn⟩
theorem ZP.keeps {w w' : World} {v : Value} {o : Option Zn} (h : ZP w v o) (hn : Keeps w w') : ZP w' v o := by
  cases o with
  | none => exact h
  | some z => obtain ⟨b, h1, h2⟩ := h; exact ⟨b, h1, h2.keeps hn⟩
theorem ZP.rkeeps {w w' : World} {v : Value} {o : Option Zn} (h : ZP w v o) (hn : RKeeps w w') : ZP w' v o := by
  cases o with
  | none => exact h
  | some z => obtain ⟨b, h1, h2⟩ := h; exact ⟨b, h1, h2.rkeeps hn⟩
theorem ZP.keepB {w w' : World} {v : Value} {o : Option Zn} (h : ZP w v o) (hn : KeepB w w') : ZP w' v o := by
  cases o with
  | none => exact h
  | some z => obtain ⟨b, h1, h2⟩ := h; exact ⟨b, h1, h2.keepB hn⟩
theorem ZRf.new {w w' : World} {v : Value} {o : Option Zn} (h : ZRf w v o) (hn : New w w') : ZRf w' v o := by
  cases o with
  | none => exact h
  | some z => obtain ⟨b, h1, h2, h3⟩ := h; exact ⟨b, h1, h2.new hn, h3⟩
theorem ZRf.keeps {w w' : World} {v : Value} {o : Option Zn} (h : ZRf w v o) (hn : Keeps w w') : ZRf w' v o := by
  cases o with
  | none => exact h
  | some z => obtain ⟨b, h1, h2, h3⟩ := h; exact ⟨b, h1, h2.keeps hn, h3⟩
theorem ZRf.rkeeps {w w' : World} {v : Value} {o : Option Zn} (h : ZRf w v o) (hn : RKeeps w w') : ZRf w' v o := by
  cases o with
  | none => exact h
  | some z => obtain ⟨b, h1, h2, h3⟩ := h; exact ⟨b, h1, h2.rkeeps hn, h3⟩
theorem ZRf.keepB {w w' : World} {v : Value} {o : Option Zn} (h : ZRf w v o) (hn : KeepB w w') : ZRf w' v o := by
  cases o with
  | none => exact h
  | some z => obtain ⟨b, h1, h2, h3⟩ := h; exact ⟨b, h1, h2.keepB hn, h3⟩
/-- No entry's key lies in block hb. -/
def Far (hb : Nat) (l : List Ent) : Prop := ∀ e ∈ l, e.key ≠ [] → ∀ b o, e.ka = some (b, o) → b ≠ hb
theorem Far.of_lt {w : World} {l : List Ent} {hb : Nat} (h : ∀ e ∈ l, ElemsT w 5 (addrOf e.ka) (e.key.map (Value.int .u8))) (hs : w.heap.size ≤ hb) : Far hb l := fun e he hne b o hka => by
  have hl : 0 < (e.key.map (Value.int .u8)).length := by
    rw [List.length_map]
    cases hq : e.key with
    | nil => exact absurd hq hne
    | cons x t => simp
  obtain ⟨b', off, cs, fr, e2, hbk, _⟩ := h e he hl
  rw [hka] at e2
  have e2 : some (⟨b, o, none⟩ : Addr) = some ⟨b', off, none⟩ := e2
  injection e2 with e2
  injection e2 with e3 e4
  have := (Array.getElem?_eq_some_iff.1 hbk).1
  omega
theorem Far.dropAll {hb : Nat} {l : List Ent} {d : List Nat} (h : Far hb l) : Far hb (dropAll l d) := by
  unfold Proofs.Ytapfihlgemejiaa.dropAll
  induction d generalizing l with
  | nil => exact h
  | cons i d ih =>
    rw [List.foldl_cons]
    refine ih fun e he => ?_
    obtain ⟨j, hj, hje⟩ := List.getElem_of_mem he
    rw [List.getElem_modify] at hje
    rw [List.length_modify] at hj
    have h2 := h _ (List.getElem_mem hj)
    rw [← hje]
    split
    · exact h2
    · exact h2
theorem Far.put {hb : Nat} {s : Sto} {key : List Int} {z : Zn} {ka : Option (Nat × Nat)} {kc zb : Nat} (h : Far hb s.ents) (hk : ∀ b o, ka = some (b, o) → b ≠ hb) : Far hb (putS s key z ka kc zb).ents := fun e he => by
  unfold putS at he
  simp only [List.mem_append, List.mem_singleton] at he
  rcases he with he | rfl
  · exact h.dropAll e he
  · intro _ b o e; exact hk b o e
theorem key_far {w w' : World} {hb : Nat} {e : Ent} (h : ElemsT w 5 (addrOf e.ka) (e.key.map (Value.int .u8))) (hat : At hb w w') (hf : e.key ≠ [] → ∀ b o, e.ka = some (b, o) → b ≠ hb) : ElemsT w' 5 (addrOf e.ka) (e.key.map (Value.int .u8)) := fun hl => by
  obtain ⟨b, off, cs, fr, e2, hbk, hc⟩ := h hl
  refine ⟨b, off, cs, fr, e2, ?_, hc⟩
  refine (hat.block b (Array.getElem?_eq_some_iff.1 hbk).1 ?_).trans hbk
  have hne : e.key ≠ [] := fun e3 => by rw [e3] at hl; simp at hl
  cases hq : e.ka with
  | none => rw [hq] at e2; cases e2
  | some p =>
    obtain ⟨b', o'⟩ := p
    rw [hq] at e2
    have e2 : some (⟨b', o', none⟩ : Addr) = some ⟨b, off, none⟩ := e2
    injection e2 with e2
    injection e2 with e3 e4
    exact e3 ▸ hf hne b' o' hq
theorem StoreAt.far {base : Nat} {w w' : World} {ps hb : Nat} {s : Sto} {cs : List Value} (h : StoreAt base w ps s) (hat : At hb w w') (hr : Row w hb 5 cs) (hf : Far hb s.ents) : StoreAt base w' ps s := by
  obtain ⟨A, c, pm, ml, h⟩ := h
  have hk := hat.keepB hr
  refine ⟨A, c, pm, ml, (hk.cells h.row (by decide)).trans h.row, ?_, h.map.keepB hk, fun key hb => ?_, fun e he => ?_, h.ok, h.low, h.lowm⟩
  · exact own_keep h.own fun g hg => by
      obtain ⟨_, cur, h2⟩ := own_row h.own hg
      exact hk.cells h2 (by decide)
  · obtain ⟨A', c', h1, h2⟩ := h.of key hb
    exact ⟨A', c', h1, h2.keepB hk (by decide)⟩
  · have h1 := h.ents e he
    exact ⟨h1.bytes, key_far h1.key hat (hf e he), h1.zone.keepB hk, h1.cap, h1.len⟩
theorem RStoreAt.far {base : Nat} {w w' : World} {rs hb : Nat} {s : Sto} {cs : List Value} (h : RStoreAt base w rs s) (hat : At hb w w') (hr : Row w hb 5 cs) (hf : Far hb s.ents) : RStoreAt base w' rs s := by
  obtain ⟨A, c, h⟩ := h
  have hk := hat.keepB hr
  refine ⟨A, c, (hk.cells h.row (by decide)).trans h.row, ?_, fun e he => ?_, h.ok, h.low⟩
  · exact own_keep h.own fun g hg => by
      obtain ⟨_, cur, h2⟩ := own_row h.own hg
      exact hk.cells h2 (by decide)
  · have h1 := h.ents e he
    exact ⟨h1.bytes, key_far h1.key hat (hf e he), h1.zone.keepB hk, h1.good, h1.len⟩
theorem StoreAt.far_new {base : Nat} {w : World} {ps hb : Nat} {s : Sto} (h : StoreAt base w ps s) (hs : w.heap.size ≤ hb) : Far hb s.ents := by
  obtain ⟨_, _, _, _, h⟩ := h
  exact Far.of_lt (fun e he => (h.ents e he).key) hs
theorem RStoreAt.far_new {base : Nat} {w : World} {rs hb : Nat} {s : Sto} (h : RStoreAt base w rs s) (hs : w.heap.size ≤ hb) : Far hb s.ents := by
  obtain ⟨_, _, h⟩ := h
  exact Far.of_lt (fun e he => (h.ents e he).key) hs
theorem ElemsT.held {base : Nat} {w : World} {A : Option Addr} {xs : List Value} (h : ElemsT w 5 A xs) : Held base w A xs := fun _ hk _ => (h.keeps hk (by decide) (by decide)).elems
/-- Covers. -/
theorem covers_zp {base : Nat} {ps : Nat} {s : Sto} (w : World) (h : StoreAt base w ps s) (A : Option Addr) (c : Nat) (key : List Int) (hk : Elems w w.heap.size A (key.map (Value.int .u8))) (hby : Bytes key) (pz : Value) (o : Option Zn) (hz : ZP w pz o) :
    Calls Try.prog 27 #[.pointer (some ⟨ps, 0, none⟩), .slice A key.length c, pz] w fun e w' => e = .returned (.int .i64 (covO s.ents key o)) ∧ New w w' := by
  cases o with
  | none =>
    have hz : pz = .pointer none := hz
    subst hz
    exact (covers_nil w h A c key hk hby).mono fun _ _ ⟨h1, h2⟩ => ⟨h1, h2.new⟩
  | some z =>
    obtain ⟨b, rfl, h2⟩ := hz
    exact (covers_any w h A c key hk hby b z h2).mono fun _ _ ⟨h1, h2⟩ => ⟨h1, h2.new⟩
theorem rcovers_zp {base : Nat} {rs : Nat} {s : Sto} (w : World) (h : RStoreAt base w rs s) (A : Option Addr) (c : Nat) (key : List Int) (hk : Elems w w.heap.size A (key.map (Value.int .u8))) (hby : Bytes key) (rz : Value) (o : Option Zn) (hz : ZRf w rz o) :
    Calls Try.prog 134 #[.pointer (some ⟨rs, 0, none⟩), .slice A key.length c, rz] w fun e w' => e = .returned (.int .i64 (covO s.ents key o)) ∧ New w w' := by
  cases o with
  | none =>
    have hz : rz = .pointer none := hz
    subst hz
    exact (rcovers_nil ⟨rs, 0, none⟩ _ w).mono fun _ _ ⟨h1, h2⟩ => ⟨h1, h2 ▸ New.refl _⟩
  | some z =>
    obtain ⟨b, rfl, h2, h3⟩ := hz
    exact (rcovers_any w h A c key hk hby b z h2 h3).mono fun _ _ ⟨h1, h2⟩ => ⟨h1, h2.new⟩
/-- What a Put answers: where, whether it was there, what it drove out, its error. -/
structure PutR where
  i : Int
  cv : Bool
  dl : List Nat
  er : Int
def putR (s : Sto) (key : List Int) : Option Zn → PutR
  | none => ⟨0, false, [], 1⟩
  | some z => if 0 ≤ coversS s.ents key z then ⟨coversS s.ents key z, true, [], 0⟩ else if s.ents.length < 4096 then ⟨s.ents.length, false, dropped s.ents key z, 0⟩ else ⟨0, false, [], 160⟩
/-- The store behind a Put; a new key's copy lies from B on. -/
def PutTo (s : Sto) (key : List Int) (o : Option Zn) (B : Nat) (s' : Sto) : Prop :=
  match o with
  | none => s' = s
  | some z => if 0 ≤ coversS s.ents key z then s' = s else if s.ents.length < 4096 then ∃ ka kc zb, s' = putS s key z ka kc zb ∧ ∀ b o, ka = some (b, o) → B ≤ b else s' = s
theorem putR_twin {s r : Sto} (h : Twin s r) (key : List Int) (o : Option Zn) : putR r key o = putR s key o := by
  cases o with
  | none => rfl
  | some z => unfold putR; simp only [h.covers, h.length, h.dropped]
theorem putTo_twin {s r s' r' : Sto} (h : Twin s r) {key : List Int} {o : Option Zn} {B B' : Nat} (h1 : PutTo s key o B s') (h2 : PutTo r key o B' r') : Twin s' r' := by
  cases o with
  | none =>
    have h1 : s' = s := h1
    have h2 : r' = r := h2
    rw [h1, h2]; exact h
  | some z =>
    unfold PutTo at h1 h2
    simp only at h1 h2
    rw [← h.covers, ← h.length] at h2
    split at h1
    · rename_i hc
      rw [if_pos hc] at h2
      rw [h1, h2]; exact h
    · rename_i hc
      rw [if_neg hc] at h2
      split at h1
      · rename_i hl
        rw [if_pos hl] at h2
        obtain ⟨ka, kc, zb, h1, _⟩ := h1
        obtain ⟨ka', kc', zb', h2, _⟩ := h2
        rw [h1, h2]
        exact h.put key z ka kc zb ka' kc' zb'
      · rename_i hl
        rw [if_neg hl] at h2
        rw [h1, h2]; exact h
theorem putTo_far {s s' : Sto} {key : List Int} {o : Option Zn} {B hb : Nat} (h1 : PutTo s key o B s') (hf : Far hb s.ents) (hB : hb < B) : Far hb s'.ents := by
  cases o with
  | none =>
    have h1 : s' = s := h1
    rw [h1]; exact hf
  | some z =>
    unfold PutTo at h1
    simp only at h1
    split at h1
    · rw [h1]; exact hf
    · split at h1
      · obtain ⟨ka, kc, zb, h1, h3⟩ := h1
        rw [h1]
        exact hf.put fun b o e => by have := h3 b o e; omega
      · rw [h1]; exact hf
theorem putR_len (s : Sto) (key : List Int) (o : Option Zn) (h : s.ents.length ≤ 4096) : (putR s key o).dl.length ≤ 4096 := by
  cases o with
  | none => exact Nat.zero_le _
  | some z =>
    unfold putR
    simp only
    split
    · exact Nat.zero_le _
    · split
      · have h1 : (dropped s.ents key z).length ≤ (idxs s.ents key).length := List.length_filter_le _ _
        have := idxs_length_le s.ents key
        show (dropped s.ents key z).length ≤ 4096
        omega
      · exact Nat.zero_le _
theorem put_zp {base : Nat} {ps : Nat} {s : Sto} (w : World) (h : StoreAt base w ps s) (A : Option Addr) (c : Nat) (key : List Int) (hk : ElemsT w 5 A (key.map (Value.int .u8))) (hby : Bytes key) (hkl : key.length ≤ 140737488355328)
    (pz : Value) (o : Option Zn) (hz : ZP w pz o) (hb : base ≤ w.heap.size) :
    Calls Try.prog 21 #[.pointer (some ⟨ps, 0, none⟩), .slice A key.length c, pz] w fun e w' => ∃ A' c' s', e = .returned (.tuple #[.int .i64 (putR s key o).i, .bool (putR s key o).cv, .slice A' (putR s key o).dl.length c', .int .i64 (putR s key o).er]) ∧
      ElemsT w' 3 A' (nats (putR s key o).dl) ∧ StoreAt base w' ps s' ∧ PutTo s key o w.heap.size s' ∧ Keeps w w' ∧ Below base w w' := by
  cases o with
  | none =>
    have hz : pz = .pointer none := hz
    subst hz
    refine (put_nil_zone ⟨ps, 0, none⟩ _ w).mono ?_
    rintro e w' ⟨rfl, rfl⟩
    exact ⟨none, 0, s, rfl, ElemsT.nil _ _ _, h, rfl, Keeps.refl _, Below.refl _ _⟩
  | some z =>
    obtain ⟨b, rfl, h2⟩ := hz
    by_cases hc : 0 ≤ coversS s.ents key z
    · rw [show putR s key (some z) = ⟨coversS s.ents key z, true, [], 0⟩ from if_pos hc]
      refine (put_covered w h A c key hk.elems hby b z h2 hc).mono ?_
      rintro e w' ⟨rfl, hd⟩
      exact ⟨none, 0, s, rfl, ElemsT.nil _ _ _, h.new hd.new, (show PutTo s key (some z) w.heap.size s from by unfold PutTo; simp only [if_pos hc]), hd.new.keeps, hd.new.below hb⟩
    · by_cases hl : s.ents.length < 4096
      · rw [show putR s key (some z) = ⟨s.ents.length, false, dropped s.ents key z, 0⟩ from (if_neg hc).trans (if_pos hl)]
        refine (put_store2 w h A c key hk.held hby hkl b z h2 hb (by omega) hl).mono ?_
        rintro e w' ⟨vd, ka, kc, rfl, ho, hs, hk2, hb2, hf⟩
        obtain ⟨A', c', rfl⟩ := own_form ho
        exact ⟨A', c', _, rfl, elemsT_of_own ho, hs, (by unfold PutTo; simp only [if_neg hc, if_pos hl]; exact ⟨ka, kc, b, rfl, hf⟩), hk2, hb2⟩
      · rw [show putR s key (some z) = ⟨0, false, [], 160⟩ from (if_neg hc).trans (if_neg hl)]
        refine (put_full w h A c key hk.elems hby b z h2 (by omega) (by omega)).mono ?_
        rintro e w' ⟨rfl, hd⟩
        exact ⟨none, 0, s, rfl, ElemsT.nil _ _ _, h.new hd.new, (show PutTo s key (some z) w.heap.size s from by unfold PutTo; simp only [if_neg hc, if_neg hl]), hd.new.keeps, hd.new.below hb⟩
theorem rput_zp {base : Nat} {rs : Nat} {s : Sto} (w : World) (h : RStoreAt base w rs s) (A : Option Addr) (c : Nat) (key : List Int) (hk : Elems w base A (key.map (Value.int .u8))) (hby : Bytes key) (hkl : key.length ≤ 140737488355328)
    (rz : Value) (o : Option Zn) (hz : ZRf w rz o) (hb : base ≤ w.heap.size) :
    Calls Try.prog 128 #[.pointer (some ⟨rs, 0, none⟩), .slice A key.length c, rz] w fun e w' => ∃ A' c' s', e = .returned (.tuple #[.int .i64 (putR s key o).i, .bool (putR s key o).cv, .slice A' (putR s key o).dl.length c', .int .i64 (putR s key o).er]) ∧
      ElemsT w' 3 A' (nats (putR s key o).dl) ∧ RStoreAt base w' rs s' ∧ PutTo s key o w.heap.size s' ∧ RKeeps w w' ∧ Below base w w' := by
  cases o with
  | none =>
    have hz : rz = .pointer none := hz
    subst hz
    refine (rput_nil_zone ⟨rs, 0, none⟩ _ w).mono ?_
    rintro e w' ⟨rfl, rfl⟩
    exact ⟨none, 0, s, rfl, ElemsT.nil _ _ _, h, rfl, RKeeps.refl _, Below.refl _ _⟩
  | some z =>
    obtain ⟨b, rfl, h2, h3⟩ := hz
    by_cases hc : 0 ≤ coversS s.ents key z
    · rw [show putR s key (some z) = ⟨coversS s.ents key z, true, [], 0⟩ from if_pos hc]
      refine (rput_covered w h A c key (hk.mono hb) hby b z h2 h3 hc).mono ?_
      rintro e w' ⟨rfl, hd⟩
      exact ⟨none, 0, s, rfl, ElemsT.nil _ _ _, h.new hd, (show PutTo s key (some z) w.heap.size s from by unfold PutTo; simp only [if_pos hc]), hd.rkeeps, hd.below hb⟩
    · by_cases hl : s.ents.length < 4096
      · rw [show putR s key (some z) = ⟨s.ents.length, false, dropped s.ents key z, 0⟩ from (if_neg hc).trans (if_pos hl)]
        refine (rput_store2 w h A c key hk hby hkl b z h2 h3 hb (by omega) hl).mono ?_
        rintro e w' ⟨vd, ka, kc, rfl, ho, hs, hk2, hb2, hf⟩
        obtain ⟨A', c', rfl⟩ := own_form ho
        exact ⟨A', c', _, rfl, elemsT_of_own ho, hs, (by unfold PutTo; simp only [if_neg hc, if_pos hl]; exact ⟨ka, kc, b, rfl, hf⟩), hk2, hb2⟩
      · rw [show putR s key (some z) = ⟨0, false, [], 160⟩ from (if_neg hc).trans (if_neg hl)]
        refine (rput_full w h A c key (hk.mono hb) hby b z h2 h3 (by omega) (by omega)).mono ?_
        rintro e w' ⟨rfl, hd⟩
        exact ⟨none, 0, s, rfl, ElemsT.nil _ _ _, h.new hd, (show PutTo s key (some z) w.heap.size s from by unfold PutTo; simp only [if_neg hc, if_neg hl]), hd.rkeeps, hd.below hb⟩
end Go.Proofs.Ytapfihlgemejiaa
