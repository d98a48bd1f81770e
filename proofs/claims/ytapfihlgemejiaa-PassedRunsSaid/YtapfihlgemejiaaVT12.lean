/- gnomonlaw16.PassedRuns. -/
import Derived.Test.YtapfihlgemejiaaVS8
import Derived.Test.YtapfihlgemejiaaVT11
namespace Go.Proofs.Ytapfihlgemejiaa
open Go.RowKit
set_option maxRecDepth 100000 in
set_option maxHeartbeats 2000000 in
theorem live16_any (w : World) : Calls Try.prog 19 #[] w fun e w' => e = .returned (.bool true) ∧ New w w' := by
  go_enter Try.func19, Try.ntmps19
  go_wp2_with fail
  refine (new_any false w.heap.size w (Nat.le_refl _)).mono ?_
  rintro e w1 ⟨rfl, hst, hn⟩
  have hB := hn.below (Nat.le_refl _)
  generalize w.heap.size + 1 = ps at *
  clear hn
  go_wp2_with fail
  -- the first zone
  refine (upTo_any 3 up3 (by decide) (by decide) _).mono ?_
  rintro e w2 ⟨z1, rfl, _, hz, hn2⟩
  have hn12 : New w1 w2 := ((New.refl w1).alloc _).trans hn2
  have hkey := ((elemsT_new w1 5 [.int .u8 1]).keeps hn2.keeps (by decide) (by decide))
  have hst2 := hst.new hn12
  have hb2 := hB.trans (hn12.below hB.size)
  have hput := put_store w2 hst2 _ 1 [1] (Held.of_type (base := w.heap.size) hkey (by decide) (by decide)) bytes1 (by decide) z1 (upZ 3) hz hb2.size (by rw [s0_cov]; decide) (by rw [s0_len]; decide)
  rw [s0_len, s0_drop] at hput
  have HP := Lib.hid hput
  clear hput hst hst2 hkey hz hB hn2 hn12
  go_wp2_with fail
  refine HP.out.mono ?_
  rintro e w3 ⟨vd, ka, kc, rfl, hvd, hst, _, hbl⟩
  have hB := hb2.trans hbl
  obtain ⟨A1, c1, rfl⟩ := own_form hvd
  rw [List.length_nil]
  clear HP hb2 hbl hvd
  go_wp2_with fail
  -- the second
  refine (upTo_any 5 up5 (by decide) (by decide) _).mono ?_
  rintro e w4 ⟨z2, rfl, _, hz, hn2⟩
  have hn12 : New w3 w4 := ((New.refl w3).alloc _).trans hn2
  have hkey := ((elemsT_new w3 5 [.int .u8 1]).keeps hn2.keeps (by decide) (by decide))
  have hst2 := hst.new hn12
  have hb2 := hB.trans (hn12.below hB.size)
  have hput := put_store w4 hst2 _ 1 [1] (Held.of_type (base := w.heap.size) hkey (by decide) (by decide)) bytes1 (by decide) z2 (upZ 5) hz hb2.size (by rw [← s1, s1_cov]; decide) (by rw [← s1, s1_len]; decide)
  rw [← s1, s1_len, s1_drop] at hput
  have HP := Lib.hid hput
  clear hput hst hst2 hkey hz hB hn2 hn12
  go_wp2_with fail
  refine HP.out.mono ?_
  rintro e w5 ⟨vd, ka2, kc2, rfl, hvd, hst, _, hbl⟩
  have hB := hb2.trans hbl
  obtain ⟨A2, c2, rfl⟩ := own_form hvd
  rw [List.length_singleton]
  rw [← s2] at hst
  clear HP hb2 hbl hvd
  go_wp2_with fail
  -- the third
  refine (upTo_any 4 up4 (by decide) (by decide) _).mono ?_
  rintro e w6 ⟨z3, rfl, _, hz, hn2⟩
  have hn12 : New w5 w6 := ((New.refl w5).alloc _).trans hn2
  have hkey := ((elemsT_new w5 5 [.int .u8 1]).keeps hn2.keeps (by decide) (by decide))
  have hst2 := hst.new hn12
  have hb2 := hB.trans (hn12.below hB.size)
  have hput := put_covered w6 hst2 _ 1 [1] hkey.elems bytes1 z3 (upZ 4) hz (by rw [s2_cov]; decide)
  rw [s2_cov] at hput
  have HP := Lib.hid hput
  clear hput hst hkey hz hB hn2 hn12
  go_wp2_with fail
  refine HP.out.mono ?_
  rintro e w7 ⟨rfl, hd⟩
  have hst := hst2.drew hd
  have hB := hb2.trans (hd.new.below hb2.size)
  clear HP hst2 hb2 hd
  go_wp2_with fail
  refine (take_some w7 hst hB.size (s2_wait _ _ _ _ _ _)).mono ?_
  rintro e w8 ⟨rfl, hst8, _, hbl⟩
  have hB8 := hB.trans hbl
  have hg := gone_at w8 0 hst8 (by rw [s2_len2]; decide)
  rw [s2_gone] at hg
  have HG := Lib.hid hg
  clear hg hst hB hbl
  go_wp2_with fail
  refine HG.out.mono ?_
  rintro e w9 ⟨rfl, hn⟩
  have hl := len_any w9 (hst8.new hn)
  rw [s2_len2] at hl
  have HL := Lib.hid hl
  have hB := hB8.trans (hn.below hB8.size)
  clear hl HG hst8 hn hB8
  go_wp2_with fail
  refine HL.out.mono ?_
  rintro e w10 ⟨rfl, rfl⟩
  go_wp2_with fail
  go_ret
  exact ⟨rfl, new_of_below hB⟩
end Go.Proofs.Ytapfihlgemejiaa
namespace Go.Proofs.Ytapfihlgemejiaa
open Go.RowKit Go.Proofs.YtapfihlgemejiaaW.PrintLast
/-- All but pairs of stores is as it was. -/
def KP (w w' : World) : Prop := ∀ (g : Nat) (o : Obj), w.heap[g]? = some o → (∀ cs fr, o ≠ .cells cs 108 fr) → w'.heap[g]? = w.heap[g]?
theorem KP.refl (w : World) : KP w w := fun _ _ _ _ => rfl
theorem KP.trans {a b c : World} (h : KP a b) (k : KP b c) : KP a c := fun g o hg ho => by
  have e := h g o hg ho
  exact (k g o (e.trans hg) ho).trans e
theorem New.kp {a b : World} (h : New a b) : KP a b := fun g _ hg _ => h.block g (Array.getElem?_eq_some_iff.1 hg).1 (fun e => e)
theorem KP.cells {w w' : World} (h : KP w w') {g : Nat} {cs : Array Value} {t : TypeId} {fr : Nat × Nat} (hg : w.heap[g]? = some (.cells cs t fr)) (h1 : t ≠ 108) : w'.heap[g]? = w.heap[g]? :=
  h g _ hg fun cs' fr' e => by injection e with _ e _; exact h1 e
theorem KP.set {a w : World} (h : KP a w) {g : Nat} {cs : List Value} (hr : Row w g 108 cs) (i : Nat) (v : Value) : KP a (w.setCell ⟨g, i, none⟩ v) := h.trans fun k o hk ho => heap_setCell_other w ⟨g, i, none⟩ k v (fun e => by
  have e : k = g := e
  subst e
  have h2 : w.heap[k]? = some (.cells cs.toArray 108 (0, 0)) := hr
  rw [h2] at hk; injection hk with hk; exact ho _ _ hk.symm)
theorem KP.grown {w w' : World} {base size n : Nat} {v : Value} {xs : List Value} (ho : w.ownsRow base 108 size v n xs) (hg : w.grownBy w' v.ownBlock) : KP w w' := fun g o hgo hno => by
  have hlt := (Array.getElem?_eq_some_iff.1 hgo).1
  refine hg.block g hlt fun e => ?_
  obtain ⟨_, cur, hc⟩ := own_row ho e.symm
  rw [hc] at hgo; injection hgo with hgo; exact hno _ _ hgo.symm
theorem ElemsT.kp {w w' : World} {t : TypeId} {A : Option Addr} {xs : List Value} (h : ElemsT w t A xs) (hk : KP w w') (h1 : t ≠ 108) : ElemsT w' t A xs := fun hl => by
  obtain ⟨b, off, cs, fr, e, hb, hc⟩ := h hl
  exact ⟨b, off, cs, fr, e, (hk.cells hb h1).trans hb, hc⟩
theorem StoreAt.kp {base : Nat} {w w' : World} {ps : Nat} {s : Sto} (h : StoreAt base w ps s) (hk : KP w w') : StoreAt base w' ps s := by
  obtain ⟨A, c, pm, ml, h⟩ := h
  refine ⟨A, c, pm, ml, (hk.cells h.row (by decide)).trans h.row, ?_, ?_, fun key hb => ?_, fun e he => ?_, h.ok, h.low, h.lowm⟩
  · exact own_keep h.own fun g hg => by
      obtain ⟨_, cur, h2⟩ := own_row h.own hg
      exact hk.cells h2 (by decide)
  · obtain ⟨es, clock, h1, h2⟩ := h.map
    exact ⟨es, clock, (hk _ _ h1 fun cs fr e => by cases e).trans h1, h2⟩
  · obtain ⟨A', c', h1, h2⟩ := h.of key hb
    exact ⟨A', c', h1, h2.kp hk (by decide)⟩
  · have h1 := h.ents e he
    exact ⟨h1.bytes, h1.key.kp hk (by decide), ⟨(hk.cells h1.zone.row (by decide)).trans h1.zone.row, h1.zone.len, h1.zone.dim⟩, h1.cap, h1.len⟩
theorem RStoreAt.kp {base : Nat} {w w' : World} {rs : Nat} {s : Sto} (h : RStoreAt base w rs s) (hk : KP w w') : RStoreAt base w' rs s := by
  obtain ⟨A, c, h⟩ := h
  refine ⟨A, c, (hk.cells h.row (by decide)).trans h.row, ?_, fun e he => ?_, h.ok, h.low⟩
  · exact own_keep h.own fun g hg => by
      obtain ⟨_, cur, h2⟩ := own_row h.own hg
      exact hk.cells h2 (by decide)
  · have h1 := h.ents e he
    obtain ⟨A', c', h3, h4⟩ := h1.zone.row
    exact ⟨h1.bytes, h1.key.kp hk (by decide), ⟨⟨A', c', (hk.cells h3 (by decide)).trans h3, h4.kp hk (by decide)⟩, h1.zone.dim, h1.zone.len⟩, h1.good, h1.len⟩
theorem StoreAt.lower {base base' : Nat} {w : World} {ps : Nat} {s : Sto} (h : StoreAt base w ps s) (hb : base' ≤ base) : StoreAt base' w ps s := by
  obtain ⟨A, c, pm, ml, h⟩ := h
  exact ⟨A, c, pm, ml, h.row, own_lower h.own hb, h.map, h.of, h.ents, h.ok, Nat.le_trans hb h.low, Nat.le_trans hb h.lowm⟩
theorem RStoreAt.lower {base base' : Nat} {w : World} {rs : Nat} {s : Sto} (h : RStoreAt base w rs s) (hb : base' ≤ base) : RStoreAt base' w rs s := by
  obtain ⟨A, c, h⟩ := h
  exact ⟨A, c, h.row, own_lower h.own hb, h.ents, h.ok, Nat.le_trans hb h.low⟩
/-- A pair that was put aside: it lies below base. -/
def OldAt (base : Nat) (w : World) (p : Nat × Nat) : Prop := ∃ wf b s r, wf.heap.size ≤ base ∧ StoreAt b wf p.1 s ∧ RStoreAt b wf p.2 r ∧ Twin s r ∧ KP wf w
theorem OldAt.below {base base' : Nat} {w w' : World} {p : Nat × Nat} (h : OldAt base w p) (hb : Below base w w') (hbb : base ≤ base') : OldAt base' w' p := by
  obtain ⟨wf, b, s, r, h1, h2, h3, h4, h5⟩ := h
  refine ⟨wf, b, s, r, Nat.le_trans h1 hbb, h2, h3, h4, fun g o hg ho => ?_⟩
  have hlt := (Array.getElem?_eq_some_iff.1 hg).1
  exact (hb.block g (Nat.lt_of_lt_of_le hlt h1)).trans (h5 g o hg ho)
theorem OldAt.kp {base base' : Nat} {w w' : World} {p : Nat × Nat} (h : OldAt base w p) (hk : KP w w') (hbb : base ≤ base') : OldAt base' w' p := by
  obtain ⟨wf, b, s, r, h1, h2, h3, h4, h5⟩ := h
  exact ⟨wf, b, s, r, Nat.le_trans h1 hbb, h2, h3, h4, h5.trans hk⟩
theorem OldAt.stores {base : Nat} {w : World} {p : Nat × Nat} (h : OldAt base w p) : ∃ b s r, StoreAt b w p.1 s ∧ RStoreAt b w p.2 r ∧ Twin s r := by
  obtain ⟨wf, b, s, r, h1, h2, h3, h4, h5⟩ := h
  exact ⟨b, s, r, h2.kp h5, h3.kp h5, h4⟩
def duoC (p : Nat × Nat) : List Value := [.pointer (some ⟨p.1, 0, none⟩), .pointer (some ⟨p.2, 0, none⟩)]
def duoRow (l : List (Nat × Nat)) : List Value := l.flatMap duoC
theorem duoRow_get (l : List (Nat × Nat)) (i : Nat) (h : i < l.length) (k : Nat) (hk : k < 2) : (duoRow l)[2 * i + k]? = (duoC l[i])[k]? := by
  induction l generalizing i with
  | nil => simp at h
  | cons e l ih =>
    have e1 : duoRow (e :: l) = duoC e ++ duoRow l := rfl
    rw [e1]
    cases i with
    | zero =>
      rw [List.getElem?_append_left (by simp [duoC]; omega)]
      simp
    | succ i =>
      rw [List.getElem?_append_right (by simp [duoC]; omega)]
      have : 2 * (i + 1) + k - (duoC e).length = 2 * i + k := by simp [duoC]; omega
      rw [this, ih i (by simpa using h)]
      rfl
theorem infoOf108 : (Try.prog.info? 108).map (fun i => (i.zero, i.size, i.bytes)) = some (some (.agg #[.pointer none, .pointer none]), 2, 16) := by kernel_rfl
end Go.Proofs.Ytapfihlgemejiaa
