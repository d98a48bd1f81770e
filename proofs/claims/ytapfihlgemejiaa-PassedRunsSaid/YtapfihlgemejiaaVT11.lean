/- gnomonlaw16: both.step: a step of both stores, side by side. -/
import Derived.Test.YtapfihlgemejiaaVT10
import Derived.Test.YtapfihlgemejiaaVS12
import Derived.Test.YtapfihlgemejiaaVQ4
import Derived.Test.YtapfihlgemejiaaVR17
namespace Go.Proofs.Ytapfihlgemejiaa
open Go.RowKit
theorem of_zp {w : World} (x : Stp) {A : Option Addr} {c : Nat} (hA : Elems w w.heap.size A (x.cells.map (Value.int .i32))) :
    Calls Try.prog 26 #[.int .i64 x.n, .slice A x.cells.length c] w fun e w' => ∃ pz er, e = .returned (.tuple #[pz, .int .i64 er]) ∧ ZP w' pz (zoneS x) ∧ New w w' := by
  refine (stpZone x hA).mono ?_
  rintro e w' ⟨p, er, rfl, hz, hn⟩
  refine ⟨_, er, rfl, ?_, hn⟩
  unfold StpZone at hz
  cases hq : zoneS x with
  | none => rw [hq] at hz; show Value.pointer p = _; rw [hz]
  | some z =>
    rw [hq] at hz
    obtain ⟨b, h1, _, h2⟩ := hz
    exact ⟨b, by rw [h1], h2⟩
theorem rof_zp {w : World} (x : Stp) {A : Option Addr} {c : Nat} (hA : Elems w w.heap.size A (x.cells.map (Value.int .i32))) (hr : ∀ y ∈ x.cells, -2147483648 ≤ y ∧ y ≤ 2147483647) (hlen : x.cells.length ≤ 140737488355328) :
    Calls Try.prog 68 #[.int .i64 x.n, .slice A x.cells.length c] w fun e w' => ∃ rz er, e = .returned (.tuple #[rz, .int .i64 er]) ∧ ZRf w' rz (zoneS x) ∧ New w w' := by
  refine (rof_any x.n A c x.cells w hA hr hlen).mono ?_
  rintro e w' ⟨hz, hn⟩
  cases hq : ofZ x.n x.cells with
  | err k =>
    rw [hq] at hz
    exact ⟨_, k, hz, by rw [zoneS_err hq]; rfl, hn⟩
  | ok Z =>
    rw [hq] at hz
    obtain ⟨b, he, _, h2⟩ := hz
    obtain ⟨k, hk, _, _, hg, _⟩ := ofZ_good hq
    refine ⟨_, 0, he, ?_, hn⟩
    rw [zoneS_ok hq]
    refine ⟨b, rfl, h2, ?_⟩
    rw [hk]; exact hg
theorem alike_zp {base ps rs : Nat} {s r : Sto} (w : World) (hs : StoreAt base w ps s) (hr : RStoreAt base w rs r) (ht : Twin s r) (A : Option Addr) (c : Nat) (key : List Int) (hk : Elems w w.heap.size A (key.map (Value.int .u8))) (hby : Bytes key)
    (pz rz : Value) (o : Option Zn) (hp : ZP w pz o) (hz : ZRf w rz o) :
    Calls Try.prog 64 #[.agg #[.pointer (some ⟨ps, 0, none⟩), .pointer (some ⟨rs, 0, none⟩)], .slice A key.length c, pz, rz] w fun e w' => e = .returned (.bool true) ∧ New w w' := by
  have hkW : ∀ W, New w W → Elems W W.heap.size A (key.map (Value.int .u8)) := fun W h => (hk.new h (Nat.le_refl _)).mono h.size
  refine twin_alike w hs hr ht A c key hk hby pz rz (covO s.ents key o) (fun W h => covers_zp W (hs.new h) A c key (hkW W h) hby pz o (hp.new h)) (fun W h => ?_)
  have e : covO s.ents key o = covO r.ents key o := by
    cases o with
    | none => rfl
    | some z => exact ht.covers key z
  rw [e]
  exact rcovers_zp W (hr.new h) A c key (hkW W h) hby rz o (hz.new h)
/-- A Take of both stores. -/
theorem take_both {s r : Sto} (ht : Twin s r) : ∃ (i : Int) (b : Bool) (f : Sto → Sto), (∀ (base ps : Nat) (W : World), StoreAt base W ps s → base ≤ W.heap.size → Calls Try.prog 31 #[.pointer (some ⟨ps, 0, none⟩)] W fun e w' => e = .returned (.tuple #[.int .i64 i, .bool b]) ∧ StoreAt base w' ps (f s) ∧ Keeps W w' ∧ Below base W w') ∧
    (∀ (base rs : Nat) (W : World), RStoreAt base W rs r → base ≤ W.heap.size → Calls Try.prog 130 #[.pointer (some ⟨rs, 0, none⟩)] W fun e w' => e = .returned (.tuple #[.int .i64 i, .bool b]) ∧ RStoreAt base w' rs (f r) ∧ RKeeps W w' ∧ Below base W w') ∧ Twin (f s) (f r) := by
  cases hw : waitS s with
  | nil =>
    refine ⟨0, false, id, fun base ps W h hb => ?_, fun base rs W h hb => ?_, ht⟩
    · exact (take_none W h hw).mono fun e w' ⟨h1, h2⟩ => ⟨h1, h.new h2, h2.keeps, h2.below hb⟩
    · exact (rtake_none W h (by rw [← ht.waits]; exact hw)).mono fun e w' ⟨h1, h2⟩ => ⟨h1, h.new h2, h2.rkeeps, h2.below hb⟩
  | cons i l =>
    refine ⟨i, true, fun s => takeS s i, fun base ps W h hb => take_some W h hb hw, fun base rs W h hb => rtake_some W h hb (by rw [← ht.waits]; exact hw), ht.take i⟩
theorem Row.keeps {w w' : World} {g : Nat} {t : TypeId} {cs : List Value} (h : Row w g t cs) (hk : Keeps w w') (h1 : t ≠ 141) (h2 : t ≠ 143) : Row w' g t cs := (hk g _ t _ h h1 h2).trans h
theorem Row.rkeeps {w w' : World} {g : Nat} {t : TypeId} {cs : List Value} (h : Row w g t cs) (hk : RKeeps w w') (h1 : t ≠ 190) (h2 : t ≠ 194) : Row w' g t cs := (hk.cells h h1 h2).trans h
theorem Row.elemsT {w : World} {b : Nat} {t : TypeId} {cs : List Value} (h : Row w b t cs) (n : Nat) : ElemsT w t (some ⟨b, 0, none⟩) (cs.take n) := fun _ => by
  refine ⟨b, 0, _, _, rfl, h, fun j u hu => ?_⟩
  rw [List.getElem?_take] at hu
  split at hu
  · simpa using hu
  · cases hu
/-- What shows cells, and is no store's own block, shows them still. -/
def SK (w w' : World) : Prop := ∀ (g : Nat) (cs : Array Value) (t : TypeId) (fr : Nat × Nat), w.heap[g]? = some (Obj.cells cs t fr) → t ≠ 141 → t ≠ 143 → t ≠ 190 → t ≠ 194 → w'.heap[g]? = w.heap[g]?
theorem SK.trans {a b c : World} (h : SK a b) (k : SK b c) : SK a c := fun g cs t fr hg h1 h2 h3 h4 => by
  have e := h g cs t fr hg h1 h2 h3 h4
  exact (k g cs t fr (e.trans hg) h1 h2 h3 h4).trans e
theorem Keeps.sk {a b : World} (h : Keeps a b) : SK a b := fun g cs t fr hg h1 h2 _ _ => h g cs t fr hg h1 h2
theorem RKeeps.sk {a b : World} (h : RKeeps a b) : SK a b := fun _ _ _ _ hg _ _ h3 h4 => h.cells hg h3 h4
structure BS (base : Nat) (w w' : World) : Prop where
  b : Below base w w'
  k : SK w w'
theorem BS.size {base : Nat} {w w' : World} (h : BS base w w') : w.heap.size ≤ w'.heap.size := h.b.size
theorem BS.trans {base : Nat} {a b c : World} (h : BS base a b) (k : BS base b c) : BS base a c := ⟨h.b.trans k.b, h.k.trans k.k⟩
theorem New.bs {base : Nat} {a b : World} (h : New a b) (hb : base ≤ a.heap.size) : BS base a b := ⟨h.below hb, h.keeps.sk⟩
theorem BS.at_ {base hb : Nat} {a b c : World} (h : BS base a b) (k : At hb b c) (h1 : base ≤ hb) (h2 : a.heap.size ≤ hb) (h3 : base ≤ b.heap.size) : BS base a c :=
  ⟨h.b.trans (Fr.below k h3 (fun j hj e => by have e : j = hb := e; omega)), fun g cs t fr hg t1 t2 t3 t4 => by
    have e := h.k g cs t fr hg t1 t2 t3 t4
    have hlt := (Array.getElem?_eq_some_iff.1 hg).1
    have hlt2 := (Array.getElem?_eq_some_iff.1 (e.trans hg)).1
    exact (k.block g hlt2 (fun e => by have e : g = hb := e; omega)).trans e⟩
set_option maxRecDepth 100000 in
set_option maxHeartbeats 8000000 in
theorem step_take {base ps rs : Nat} {s r : Sto} (w : World) (hs : StoreAt base w ps s) (hr : RStoreAt base w rs r) (ht : Twin s r) (hb : base ≤ w.heap.size) (x : Stp) (A B : Option Addr) (c d : Nat)
    (hk : Elems w base A (x.key.map (Value.int .u8))) (hby : Bytes x.key) (hkl : x.key.length ≤ 140737488355328) (hc : Elems w base B (x.cells.map (Value.int .i32))) (hcr : ∀ y ∈ x.cells, -2147483648 ≤ y ∧ y ≤ 2147483647) (hcl : x.cells.length ≤ 140737488355328) (h1 : x.kind = 1) :
    Calls Try.prog 63 #[.agg #[.pointer (some ⟨ps, 0, none⟩), .pointer (some ⟨rs, 0, none⟩)], .agg #[.int .i64 x.kind, .slice A x.key.length c, .int .i64 x.n, .slice B x.cells.length d]] w fun e w' =>
      e = .returned (.bool true) ∧ ∃ s' r', StoreAt base w' ps s' ∧ RStoreAt base w' rs r' ∧ Twin s' r' ∧ BS base w w' := by
  have hN0 : New w ((w.alloc (.cells #[.pointer (some ⟨ps, 0, none⟩), .pointer (some ⟨rs, 0, none⟩)] 108)).alloc (.cells #[.int .i64 x.kind, .slice A x.key.length c, .int .i64 x.n, .slice B x.cells.length d] 42)) := ((New.refl w).alloc _).alloc _
  have hR2 : Row ((w.alloc (.cells #[.pointer (some ⟨ps, 0, none⟩), .pointer (some ⟨rs, 0, none⟩)] 108)).alloc (.cells #[.int .i64 x.kind, .slice A x.key.length c, .int .i64 x.n, .slice B x.cells.length d] 42)) w.heap.size 108 [.pointer (some ⟨ps, 0, none⟩), .pointer (some ⟨rs, 0, none⟩)] :=
    (Row.new w 108 [.pointer (some ⟨ps, 0, none⟩), .pointer (some ⟨rs, 0, none⟩)]).alloc _
  have hR3 : Row ((w.alloc (.cells #[.pointer (some ⟨ps, 0, none⟩), .pointer (some ⟨rs, 0, none⟩)] 108)).alloc (.cells #[.int .i64 x.kind, .slice A x.key.length c, .int .i64 x.n, .slice B x.cells.length d] 42)) (w.heap.size + 1) 42 [.int .i64 x.kind, .slice A x.key.length c, .int .i64 x.n, .slice B x.cells.length d] := by
    have h9 := Row.new (w.alloc (.cells #[.pointer (some ⟨ps, 0, none⟩), .pointer (some ⟨rs, 0, none⟩)] 108)) 42 [.int .i64 x.kind, .slice A x.key.length c, .int .i64 x.n, .slice B x.cells.length d]
    rw [World.size_alloc] at h9; exact h9
  have HB0 := Lib.hid (hN0.bs hb)
  have HS0 := Lib.hid (hs.new hN0)
  have HR0 := Lib.hid (hr.new hN0)
  have HK0 := Lib.hid (hk.below (hN0.below hb))
  have HC0 := Lib.hid (hc.below (hN0.below hb))
  obtain ⟨w0, hw0⟩ : ∃ w0, ((w.alloc (.cells #[.pointer (some ⟨ps, 0, none⟩), .pointer (some ⟨rs, 0, none⟩)] 108)).alloc (.cells #[.int .i64 x.kind, .slice A x.key.length c, .int .i64 x.n, .slice B x.cells.length d] 42)) = w0 := ⟨_, rfl⟩
  rw [hw0] at hR2 hR3 HB0 HS0 HR0 HK0 HC0
  have HBW := Lib.hid hb
  have HBY := Lib.hid hby
  have HKL := Lib.hid hkl
  have HT := Lib.hid ht
  have HFEW : Hid (s.ents.length ≤ 4096) := Lib.hid (by obtain ⟨_, _, _, _, h⟩ := hs; exact h.ok.few)
  have HB0S : Hid (base ≤ w0.heap.size) := Lib.hid (Nat.le_trans hb HB0.out.size)
  have ZC := Lib.hid (of_zp (w := w0) x (c := d) (HC0.out.mono HB0S.out))
  have RZC : Hid (∀ W, New w0 W → Calls Try.prog 68 #[.int .i64 x.n, .slice B x.cells.length d] W fun e w' => ∃ rz er, e = .returned (.tuple #[rz, .int .i64 er]) ∧ ZRf w' rz (zoneS x) ∧ New W w') :=
    Lib.hid (fun W hW => rof_zp x (c := d) ((HC0.out.mono HB0S.out).new hW (Nat.le_refl _) |>.mono hW.size) hcr hcl)
  obtain ⟨o, ho⟩ : ∃ o, zoneS x = o := ⟨_, rfl⟩
  rw [ho] at ZC RZC
  clear hs hr ht hb hk hby hkl hc hcr hcl hN0 ho
  obtain ⟨kind, key, num, cells⟩ := x
  simp only at h1 hR2 hR3 HK0 HC0 HBY HKL ZC RZC hw0 ⊢
  subst h1
  obtain ⟨nk, hnk⟩ : ∃ nk, key.length = nk := ⟨_, rfl⟩
  have HNK := Lib.hid hnk
  rw [hnk] at hR3 hw0 ⊢
  clear hnk
  generalize cells.length = nc at *
  generalize cells.map (Value.int .i32) = xc at *
  have HR2 := Lib.hid hR2
  have HR3 := Lib.hid hR3
  generalize hb2 : w.heap.size = b2 at *
  generalize hb3 : b2 + 1 = b3 at *
  clear hR2 hR3
  have q0 := HR3.out.cell 0
  have q1 := HR3.out.cell 1
  have q2 := HR3.out.cell 2
  have q3 := HR3.out.cell 3
  simp only [List.getElem?_cons_succ, List.getElem?_cons_zero] at q0 q1 q2 q3
  go_enter Try.func63, Try.ntmps63
  go_wp2_with fail
  refine ZC.out.mono ?_
  rintro e w3 ⟨pz, er3, rfl, hz3, hn3⟩
  clear q0 q1 q2 q3 hw0
  have HZ3 := Lib.hid hz3
  have HN3 := Lib.hid hn3
  have q0 := (hn3.row HR3.out).cell 0
  have q1 := (hn3.row HR3.out).cell 1
  have q2 := (hn3.row HR3.out).cell 2
  have q3 := (hn3.row HR3.out).cell 3
  simp only [List.getElem?_cons_succ, List.getElem?_cons_zero] at q0 q1 q2 q3
  clear hz3 hn3
  go_wp2_with fail
  refine (RZC.out w3 HN3.out).mono ?_
  rintro e w4 ⟨rz, er4, rfl, hz4, hn4⟩
  have HZR4 := Lib.hid hz4
  have HZP4 := Lib.hid (HZ3.out.new hn4)
  have HN4 := Lib.hid (HN3.out.trans hn4)
  have HR24 := Lib.hid (HN4.out.row HR2.out)
  have HR34 := Lib.hid (HN4.out.row HR3.out)
  have HS4 := Lib.hid (HS0.out.new HN4.out)
  have HRS4 := Lib.hid (HR0.out.new HN4.out)
  have HB4 := Lib.hid (HB0.out.trans (HN4.out.bs HB0S.out))
  have HK4 := Lib.hid (HK0.out.below (HN4.out.below HB0S.out))
  have HB4S : Hid (base ≤ w4.heap.size) := Lib.hid (Nat.le_trans HB0S.out HN4.out.size)
  clear q0 q1 q2 q3 hz4 hn4 HR2 HR3 HS0 HR0 HB0 HK0 HC0 HN3 HN4 HZ3 RZC ZC HB0S
  have q0 := HR34.out.cell 0
  have q1 := HR34.out.cell 1
  simp only [List.getElem?_cons_succ, List.getElem?_cons_zero] at q0 q1
  -- the last: the two stores answer alike
  have FIN : Hid (∀ W s' r', StoreAt base W ps s' → RStoreAt base W rs r' → Twin s' r' → ZP W pz o → ZRf W rz o → Elems W base A (key.map (Value.int .u8)) → base ≤ W.heap.size →
      Calls Try.prog 64 #[.agg #[.pointer (some ⟨ps, 0, none⟩), .pointer (some ⟨rs, 0, none⟩)], .slice A nk c, pz, rz] W fun e w' => e = .returned (.bool true) ∧ New W w') := Lib.hid fun W s' r' h1 h2 h3 h4 h5 h6 h7 => by
    rw [← HNK.out]
    exact alike_zp W h1 h2 h3 A c key (h6.mono h7) HBY.out pz rz o h4 h5
  obtain ⟨i, b, f, TK, RTK, hTW⟩ := take_both HT.out
  have TKH := Lib.hid TK
  have RTKH := Lib.hid RTK
  have HTW := Lib.hid hTW
  clear TK RTK hTW
  have q20 := HR24.out.cell 0
  have q21 := HR24.out.cell 1
  simp only [List.getElem?_cons_succ, List.getElem?_cons_zero] at q20 q21
  go_wp2_with fail
  refine (TKH.out base ps w4 HS4.out HB4S.out).mono ?_
  rintro e w5 ⟨rfl, hs5, hk5, hb5⟩
  have HS5 := Lib.hid hs5
  have HRS5 := Lib.hid (HRS4.out.keeps hk5)
  have HZP5 := Lib.hid (HZP4.out.keeps hk5)
  have HZR5 := Lib.hid (HZR4.out.keeps hk5)
  have HR25 := Lib.hid (HR24.out.keeps hk5 (by decide) (by decide))
  have HR35 := Lib.hid (HR34.out.keeps hk5 (by decide) (by decide))
  have HB5 := Lib.hid (HB4.out.trans ⟨hb5, hk5.sk⟩)
  have HK5 := Lib.hid (HK4.out.below hb5)
  have HB5S : Hid (base ≤ w5.heap.size) := Lib.hid (Nat.le_trans HB4S.out hb5.size)
  clear q0 q1 q20 q21 hs5 hk5 hb5 HS4 HRS4 HZP4 HZR4 HR24 HR34 HB4 HK4 HB4S
  have q20 := HR25.out.cell 0
  have q21 := HR25.out.cell 1
  simp only [List.getElem?_cons_succ, List.getElem?_cons_zero] at q20 q21
  go_wp2_with fail
  refine (RTKH.out base rs w5 HRS5.out HB5S.out).mono ?_
  rintro e w6 ⟨rfl, hs6, hk6, hb6⟩
  have HRS6 := Lib.hid hs6
  have HS6 := Lib.hid (HS5.out.rkeeps hk6)
  have HZP6 := Lib.hid (HZP5.out.rkeeps hk6)
  have HZR6 := Lib.hid (HZR5.out.rkeeps hk6)
  have HR26 := Lib.hid (HR25.out.rkeeps hk6 (by decide) (by decide))
  have HR36 := Lib.hid (HR35.out.rkeeps hk6 (by decide) (by decide))
  have HB6 := Lib.hid (HB5.out.trans ⟨hb6, hk6.sk⟩)
  have HK6 := Lib.hid (HK5.out.below hb6)
  have HB6S : Hid (base ≤ w6.heap.size) := Lib.hid (Nat.le_trans HB5S.out hb6.size)
  clear q20 q21 hs6 hk6 hb6 HS5 HRS5 HZP5 HZR5 HR25 HR35 HB5 HK5 HB5S
  have q20 := HR26.out.cell 0
  have q21 := HR26.out.cell 1
  have q1 := HR36.out.cell 1
  simp only [List.getElem?_cons_succ, List.getElem?_cons_zero] at q20 q21 q1
  go_wp2_with fail
  refine (FIN.out w6 _ _ HS6.out HRS6.out HTW.out HZP6.out HZR6.out HK6.out HB6S.out).mono ?_
  rintro e wf ⟨rfl, hnf⟩
  have HNF := Lib.hid hnf
  clear hnf q20 q21 q1
  go_wp2_with fail
  go_ret
  exact ⟨rfl, _, _, HS6.out.new HNF.out, HRS6.out.new HNF.out, HTW.out, HB6.out.trans (HNF.out.bs HB6S.out)⟩
set_option maxRecDepth 100000 in
set_option maxHeartbeats 8000000 in
theorem step_none {base ps rs : Nat} {s r : Sto} (w : World) (hs : StoreAt base w ps s) (hr : RStoreAt base w rs r) (ht : Twin s r) (hb : base ≤ w.heap.size) (x : Stp) (A B : Option Addr) (c d : Nat)
    (hk : Elems w base A (x.key.map (Value.int .u8))) (hby : Bytes x.key) (hkl : x.key.length ≤ 140737488355328) (hc : Elems w base B (x.cells.map (Value.int .i32))) (hcr : ∀ y ∈ x.cells, -2147483648 ≤ y ∧ y ≤ 2147483647) (hcl : x.cells.length ≤ 140737488355328) (h0 : x.kind ≠ 0) (h1 : x.kind ≠ 1) :
    Calls Try.prog 63 #[.agg #[.pointer (some ⟨ps, 0, none⟩), .pointer (some ⟨rs, 0, none⟩)], .agg #[.int .i64 x.kind, .slice A x.key.length c, .int .i64 x.n, .slice B x.cells.length d]] w fun e w' =>
      e = .returned (.bool true) ∧ ∃ s' r', StoreAt base w' ps s' ∧ RStoreAt base w' rs r' ∧ Twin s' r' ∧ BS base w w' := by
  have hN0 : New w ((w.alloc (.cells #[.pointer (some ⟨ps, 0, none⟩), .pointer (some ⟨rs, 0, none⟩)] 108)).alloc (.cells #[.int .i64 x.kind, .slice A x.key.length c, .int .i64 x.n, .slice B x.cells.length d] 42)) := ((New.refl w).alloc _).alloc _
  have hR2 : Row ((w.alloc (.cells #[.pointer (some ⟨ps, 0, none⟩), .pointer (some ⟨rs, 0, none⟩)] 108)).alloc (.cells #[.int .i64 x.kind, .slice A x.key.length c, .int .i64 x.n, .slice B x.cells.length d] 42)) w.heap.size 108 [.pointer (some ⟨ps, 0, none⟩), .pointer (some ⟨rs, 0, none⟩)] :=
    (Row.new w 108 [.pointer (some ⟨ps, 0, none⟩), .pointer (some ⟨rs, 0, none⟩)]).alloc _
  have hR3 : Row ((w.alloc (.cells #[.pointer (some ⟨ps, 0, none⟩), .pointer (some ⟨rs, 0, none⟩)] 108)).alloc (.cells #[.int .i64 x.kind, .slice A x.key.length c, .int .i64 x.n, .slice B x.cells.length d] 42)) (w.heap.size + 1) 42 [.int .i64 x.kind, .slice A x.key.length c, .int .i64 x.n, .slice B x.cells.length d] := by
    have h9 := Row.new (w.alloc (.cells #[.pointer (some ⟨ps, 0, none⟩), .pointer (some ⟨rs, 0, none⟩)] 108)) 42 [.int .i64 x.kind, .slice A x.key.length c, .int .i64 x.n, .slice B x.cells.length d]
    rw [World.size_alloc] at h9; exact h9
  have HB0 := Lib.hid (hN0.bs hb)
  have HS0 := Lib.hid (hs.new hN0)
  have HR0 := Lib.hid (hr.new hN0)
  have HK0 := Lib.hid (hk.below (hN0.below hb))
  have HC0 := Lib.hid (hc.below (hN0.below hb))
  obtain ⟨w0, hw0⟩ : ∃ w0, ((w.alloc (.cells #[.pointer (some ⟨ps, 0, none⟩), .pointer (some ⟨rs, 0, none⟩)] 108)).alloc (.cells #[.int .i64 x.kind, .slice A x.key.length c, .int .i64 x.n, .slice B x.cells.length d] 42)) = w0 := ⟨_, rfl⟩
  rw [hw0] at hR2 hR3 HB0 HS0 HR0 HK0 HC0
  have HBW := Lib.hid hb
  have HBY := Lib.hid hby
  have HKL := Lib.hid hkl
  have HT := Lib.hid ht
  have HFEW : Hid (s.ents.length ≤ 4096) := Lib.hid (by obtain ⟨_, _, _, _, h⟩ := hs; exact h.ok.few)
  have HB0S : Hid (base ≤ w0.heap.size) := Lib.hid (Nat.le_trans hb HB0.out.size)
  have ZC := Lib.hid (of_zp (w := w0) x (c := d) (HC0.out.mono HB0S.out))
  have RZC : Hid (∀ W, New w0 W → Calls Try.prog 68 #[.int .i64 x.n, .slice B x.cells.length d] W fun e w' => ∃ rz er, e = .returned (.tuple #[rz, .int .i64 er]) ∧ ZRf w' rz (zoneS x) ∧ New W w') :=
    Lib.hid (fun W hW => rof_zp x (c := d) ((HC0.out.mono HB0S.out).new hW (Nat.le_refl _) |>.mono hW.size) hcr hcl)
  obtain ⟨o, ho⟩ : ∃ o, zoneS x = o := ⟨_, rfl⟩
  rw [ho] at ZC RZC
  clear hs hr ht hb hk hby hkl hc hcr hcl hN0 ho
  obtain ⟨kind, key, num, cells⟩ := x
  simp only at h0 h1 hR2 hR3 HK0 HC0 HBY HKL ZC RZC hw0 ⊢
  obtain ⟨nk, hnk⟩ : ∃ nk, key.length = nk := ⟨_, rfl⟩
  have HNK := Lib.hid hnk
  rw [hnk] at hR3 hw0 ⊢
  clear hnk
  generalize cells.length = nc at *
  generalize cells.map (Value.int .i32) = xc at *
  have HR2 := Lib.hid hR2
  have HR3 := Lib.hid hR3
  generalize hb2 : w.heap.size = b2 at *
  generalize hb3 : b2 + 1 = b3 at *
  clear hR2 hR3
  have q0 := HR3.out.cell 0
  have q1 := HR3.out.cell 1
  have q2 := HR3.out.cell 2
  have q3 := HR3.out.cell 3
  simp only [List.getElem?_cons_succ, List.getElem?_cons_zero] at q0 q1 q2 q3
  go_enter Try.func63, Try.ntmps63
  go_wp2_with fail
  refine ZC.out.mono ?_
  rintro e w3 ⟨pz, er3, rfl, hz3, hn3⟩
  clear q0 q1 q2 q3 hw0
  have HZ3 := Lib.hid hz3
  have HN3 := Lib.hid hn3
  have q0 := (hn3.row HR3.out).cell 0
  have q1 := (hn3.row HR3.out).cell 1
  have q2 := (hn3.row HR3.out).cell 2
  have q3 := (hn3.row HR3.out).cell 3
  simp only [List.getElem?_cons_succ, List.getElem?_cons_zero] at q0 q1 q2 q3
  clear hz3 hn3
  go_wp2_with fail
  refine (RZC.out w3 HN3.out).mono ?_
  rintro e w4 ⟨rz, er4, rfl, hz4, hn4⟩
  have HZR4 := Lib.hid hz4
  have HZP4 := Lib.hid (HZ3.out.new hn4)
  have HN4 := Lib.hid (HN3.out.trans hn4)
  have HR24 := Lib.hid (HN4.out.row HR2.out)
  have HR34 := Lib.hid (HN4.out.row HR3.out)
  have HS4 := Lib.hid (HS0.out.new HN4.out)
  have HRS4 := Lib.hid (HR0.out.new HN4.out)
  have HB4 := Lib.hid (HB0.out.trans (HN4.out.bs HB0S.out))
  have HK4 := Lib.hid (HK0.out.below (HN4.out.below HB0S.out))
  have HB4S : Hid (base ≤ w4.heap.size) := Lib.hid (Nat.le_trans HB0S.out HN4.out.size)
  clear q0 q1 q2 q3 hz4 hn4 HR2 HR3 HS0 HR0 HB0 HK0 HC0 HN3 HN4 HZ3 RZC ZC HB0S
  have q0 := HR34.out.cell 0
  have q1 := HR34.out.cell 1
  simp only [List.getElem?_cons_succ, List.getElem?_cons_zero] at q0 q1
  -- the last: the two stores answer alike
  have FIN : Hid (∀ W s' r', StoreAt base W ps s' → RStoreAt base W rs r' → Twin s' r' → ZP W pz o → ZRf W rz o → Elems W base A (key.map (Value.int .u8)) → base ≤ W.heap.size →
      Calls Try.prog 64 #[.agg #[.pointer (some ⟨ps, 0, none⟩), .pointer (some ⟨rs, 0, none⟩)], .slice A nk c, pz, rz] W fun e w' => e = .returned (.bool true) ∧ New W w') := Lib.hid fun W s' r' h1 h2 h3 h4 h5 h6 h7 => by
    rw [← HNK.out]
    exact alike_zp W h1 h2 h3 A c key (h6.mono h7) HBY.out pz rz o h4 h5
  have hk0 : (kind == 0) = false := by simpa using h0
  have hk1 : (kind == 1) = false := by simpa using h1
  have q20 := HR24.out.cell 0
  have q21 := HR24.out.cell 1
  simp only [List.getElem?_cons_succ, List.getElem?_cons_zero] at q20 q21
  go_wp2_with fail
  refine (FIN.out w4 _ _ HS4.out HRS4.out HT.out HZP4.out HZR4.out HK4.out HB4S.out).mono ?_
  rintro e wf ⟨rfl, hnf⟩
  have HNF := Lib.hid hnf
  clear hnf q20 q21 q0 q1
  go_wp2_with fail
  go_ret
  exact ⟨rfl, _, _, HS4.out.new HNF.out, HRS4.out.new HNF.out, HT.out, HB4.out.trans (HNF.out.bs HB4S.out)⟩
set_option maxRecDepth 100000 in
set_option maxHeartbeats 8000000 in
theorem step_put {base ps rs : Nat} {s r : Sto} (w : World) (hs : StoreAt base w ps s) (hr : RStoreAt base w rs r) (ht : Twin s r) (hb : base ≤ w.heap.size) (x : Stp) (A B : Option Addr) (c d : Nat)
    (hk : Elems w base A (x.key.map (Value.int .u8))) (hby : Bytes x.key) (hkl : x.key.length ≤ 140737488355328) (hc : Elems w base B (x.cells.map (Value.int .i32))) (hcr : ∀ y ∈ x.cells, -2147483648 ≤ y ∧ y ≤ 2147483647) (hcl : x.cells.length ≤ 140737488355328) (h0 : x.kind = 0) :
    Calls Try.prog 63 #[.agg #[.pointer (some ⟨ps, 0, none⟩), .pointer (some ⟨rs, 0, none⟩)], .agg #[.int .i64 x.kind, .slice A x.key.length c, .int .i64 x.n, .slice B x.cells.length d]] w fun e w' =>
      e = .returned (.bool true) ∧ ∃ s' r', StoreAt base w' ps s' ∧ RStoreAt base w' rs r' ∧ Twin s' r' ∧ BS base w w' := by
  have hN0 : New w ((w.alloc (.cells #[.pointer (some ⟨ps, 0, none⟩), .pointer (some ⟨rs, 0, none⟩)] 108)).alloc (.cells #[.int .i64 x.kind, .slice A x.key.length c, .int .i64 x.n, .slice B x.cells.length d] 42)) := ((New.refl w).alloc _).alloc _
  have hR2 : Row ((w.alloc (.cells #[.pointer (some ⟨ps, 0, none⟩), .pointer (some ⟨rs, 0, none⟩)] 108)).alloc (.cells #[.int .i64 x.kind, .slice A x.key.length c, .int .i64 x.n, .slice B x.cells.length d] 42)) w.heap.size 108 [.pointer (some ⟨ps, 0, none⟩), .pointer (some ⟨rs, 0, none⟩)] :=
    (Row.new w 108 [.pointer (some ⟨ps, 0, none⟩), .pointer (some ⟨rs, 0, none⟩)]).alloc _
  have hR3 : Row ((w.alloc (.cells #[.pointer (some ⟨ps, 0, none⟩), .pointer (some ⟨rs, 0, none⟩)] 108)).alloc (.cells #[.int .i64 x.kind, .slice A x.key.length c, .int .i64 x.n, .slice B x.cells.length d] 42)) (w.heap.size + 1) 42 [.int .i64 x.kind, .slice A x.key.length c, .int .i64 x.n, .slice B x.cells.length d] := by
    have h9 := Row.new (w.alloc (.cells #[.pointer (some ⟨ps, 0, none⟩), .pointer (some ⟨rs, 0, none⟩)] 108)) 42 [.int .i64 x.kind, .slice A x.key.length c, .int .i64 x.n, .slice B x.cells.length d]
    rw [World.size_alloc] at h9; exact h9
  have HB0 := Lib.hid (hN0.bs hb)
  have HS0 := Lib.hid (hs.new hN0)
  have HR0 := Lib.hid (hr.new hN0)
  have HK0 := Lib.hid (hk.below (hN0.below hb))
  have HC0 := Lib.hid (hc.below (hN0.below hb))
  obtain ⟨w0, hw0⟩ : ∃ w0, ((w.alloc (.cells #[.pointer (some ⟨ps, 0, none⟩), .pointer (some ⟨rs, 0, none⟩)] 108)).alloc (.cells #[.int .i64 x.kind, .slice A x.key.length c, .int .i64 x.n, .slice B x.cells.length d] 42)) = w0 := ⟨_, rfl⟩
  rw [hw0] at hR2 hR3 HB0 HS0 HR0 HK0 HC0
  have HBW := Lib.hid hb
  have HBY := Lib.hid hby
  have HKL := Lib.hid hkl
  have HT := Lib.hid ht
  have HFEW : Hid (s.ents.length ≤ 4096) := Lib.hid (by obtain ⟨_, _, _, _, h⟩ := hs; exact h.ok.few)
  have HB0S : Hid (base ≤ w0.heap.size) := Lib.hid (Nat.le_trans hb HB0.out.size)
  have ZC := Lib.hid (of_zp (w := w0) x (c := d) (HC0.out.mono HB0S.out))
  have RZC : Hid (∀ W, New w0 W → Calls Try.prog 68 #[.int .i64 x.n, .slice B x.cells.length d] W fun e w' => ∃ rz er, e = .returned (.tuple #[rz, .int .i64 er]) ∧ ZRf w' rz (zoneS x) ∧ New W w') :=
    Lib.hid (fun W hW => rof_zp x (c := d) ((HC0.out.mono HB0S.out).new hW (Nat.le_refl _) |>.mono hW.size) hcr hcl)
  obtain ⟨o, ho⟩ : ∃ o, zoneS x = o := ⟨_, rfl⟩
  rw [ho] at ZC RZC
  clear hs hr ht hb hk hby hkl hc hcr hcl hN0 ho
  obtain ⟨kind, key, num, cells⟩ := x
  simp only at h0 hR2 hR3 HK0 HC0 HBY HKL ZC RZC hw0 ⊢
  subst h0
  obtain ⟨nk, hnk⟩ : ∃ nk, key.length = nk := ⟨_, rfl⟩
  have HNK := Lib.hid hnk
  rw [hnk] at hR3 hw0 ⊢
  clear hnk
  generalize cells.length = nc at *
  generalize cells.map (Value.int .i32) = xc at *
  have HR2 := Lib.hid hR2
  have HR3 := Lib.hid hR3
  generalize hb2 : w.heap.size = b2 at *
  generalize hb3 : b2 + 1 = b3 at *
  clear hR2 hR3
  have q0 := HR3.out.cell 0
  have q1 := HR3.out.cell 1
  have q2 := HR3.out.cell 2
  have q3 := HR3.out.cell 3
  simp only [List.getElem?_cons_succ, List.getElem?_cons_zero] at q0 q1 q2 q3
  go_enter Try.func63, Try.ntmps63
  go_wp2_with fail
  refine ZC.out.mono ?_
  rintro e w3 ⟨pz, er3, rfl, hz3, hn3⟩
  clear q0 q1 q2 q3 hw0
  have HZ3 := Lib.hid hz3
  have HN3 := Lib.hid hn3
  have q0 := (hn3.row HR3.out).cell 0
  have q1 := (hn3.row HR3.out).cell 1
  have q2 := (hn3.row HR3.out).cell 2
  have q3 := (hn3.row HR3.out).cell 3
  simp only [List.getElem?_cons_succ, List.getElem?_cons_zero] at q0 q1 q2 q3
  clear hz3 hn3
  go_wp2_with fail
  refine (RZC.out w3 HN3.out).mono ?_
  rintro e w4 ⟨rz, er4, rfl, hz4, hn4⟩
  have HZR4 := Lib.hid hz4
  have HZP4 := Lib.hid (HZ3.out.new hn4)
  have HN4 := Lib.hid (HN3.out.trans hn4)
  have HR24 := Lib.hid (HN4.out.row HR2.out)
  have HR34 := Lib.hid (HN4.out.row HR3.out)
  have HS4 := Lib.hid (HS0.out.new HN4.out)
  have HRS4 := Lib.hid (HR0.out.new HN4.out)
  have HB4 := Lib.hid (HB0.out.trans (HN4.out.bs HB0S.out))
  have HK4 := Lib.hid (HK0.out.below (HN4.out.below HB0S.out))
  have HB4S : Hid (base ≤ w4.heap.size) := Lib.hid (Nat.le_trans HB0S.out HN4.out.size)
  clear q0 q1 q2 q3 hz4 hn4 HR2 HR3 HS0 HR0 HB0 HK0 HC0 HN3 HN4 HZ3 RZC ZC HB0S
  have q0 := HR34.out.cell 0
  have q1 := HR34.out.cell 1
  simp only [List.getElem?_cons_succ, List.getElem?_cons_zero] at q0 q1
  -- the last: the two stores answer alike
  have FIN : Hid (∀ W s' r', StoreAt base W ps s' → RStoreAt base W rs r' → Twin s' r' → ZP W pz o → ZRf W rz o → Elems W base A (key.map (Value.int .u8)) → base ≤ W.heap.size →
      Calls Try.prog 64 #[.agg #[.pointer (some ⟨ps, 0, none⟩), .pointer (some ⟨rs, 0, none⟩)], .slice A nk c, pz, rz] W fun e w' => e = .returned (.bool true) ∧ New W w') := Lib.hid fun W s' r' h1 h2 h3 h4 h5 h6 h7 => by
    rw [← HNK.out]
    exact alike_zp W h1 h2 h3 A c key (h6.mono h7) HBY.out pz rz o h4 h5
  have HND : Hid (Calls Try.prog 127 #[.slice A nk c] w4 fun e w' => e = .returned (.slice (some ⟨w4.heap.size, 0, none⟩) nk (nk + 9)) ∧ Row w' w4.heap.size 5 ((handL key).map (Value.int .u8)) ∧ New w4 w') := Lib.hid (by
    rw [← HNK.out]; exact hand_any A c key w4 (HK4.out.mono HB4S.out) HBY.out HKL.out)
  go_wp2_with fail
  refine HND.out.mono ?_
  rintro e w5 ⟨rfl, hrow, hn5⟩
  obtain ⟨hb5, hhb⟩ : ∃ hb5, w4.heap.size = hb5 := ⟨_, rfl⟩
  have HF := Lib.hid (HS4.out.far_new (Nat.le_of_eq hhb))
  have HRF := Lib.hid (HRS4.out.far_new (Nat.le_of_eq hhb))
  rw [hhb] at hrow ⊢
  have HBH : Hid (base ≤ hb5) := Lib.hid (hhb ▸ HB4S.out)
  have HWH : Hid (w.heap.size ≤ hb5) := Lib.hid (hhb ▸ HB4.out.size)
  have HROW := Lib.hid hrow
  have HLT : Hid (hb5 < w5.heap.size) := Lib.hid hrow.lt
  have HS5 := Lib.hid (HS4.out.new hn5)
  have HRS5 := Lib.hid (HRS4.out.new hn5)
  have HZP5 := Lib.hid (HZP4.out.new hn5)
  have HZR5 := Lib.hid (HZR4.out.new hn5)
  have HR25 := Lib.hid (hn5.row HR24.out)
  have HR35 := Lib.hid (hn5.row HR34.out)
  have HB5 := Lib.hid (HB4.out.trans (hn5.bs HB4S.out))
  have HK5 := Lib.hid (HK4.out.below (hn5.below HB4S.out))
  have HB5S : Hid (base ≤ w5.heap.size) := Lib.hid (Nat.le_trans HB4S.out hn5.size)
  clear q0 q1 hrow hn5 HND hhb HS4 HRS4 HZP4 HZR4 HR24 HR34 HB4 HK4 HB4S
  have PUT : Hid (Calls Try.prog 21 #[.pointer (some ⟨ps, 0, none⟩), .slice (some ⟨hb5, 0, none⟩) nk (nk + 9), pz] w5 fun e w' => ∃ A' c' s', e = .returned (.tuple #[.int .i64 (putR s key o).i, .bool (putR s key o).cv, .slice A' (putR s key o).dl.length c', .int .i64 (putR s key o).er]) ∧
      ElemsT w' 3 A' (nats (putR s key o).dl) ∧ StoreAt base w' ps s' ∧ PutTo s key o w5.heap.size s' ∧ Keeps w5 w' ∧ Below base w5 w') := Lib.hid (by
    rw [← HNK.out]
    refine put_zp w5 HS5.out _ _ key ?_ HBY.out HKL.out pz o HZP5.out HB5S.out
    have h9 := HROW.out.elemsT key.length
    rw [show (((handL key).map (Value.int .u8)).take key.length) = key.map (Value.int .u8) by simp [handL]] at h9
    exact h9)
  have q20 := HR25.out.cell 0
  have q21 := HR25.out.cell 1
  have q1 := HR35.out.cell 1
  simp only [List.getElem?_cons_succ, List.getElem?_cons_zero] at q20 q21 q1
  go_wp2_with fail
  refine PUT.out.mono ?_
  rintro e w6 ⟨A6, c6, s', rfl, he6, hs6, hp6, hk6, hb6⟩
  have HS6 := Lib.hid hs6
  have HP6 := Lib.hid hp6
  have HE6 := Lib.hid he6
  have HRS6 := Lib.hid (HRS5.out.keeps hk6)
  have HZP6 := Lib.hid (HZP5.out.keeps hk6)
  have HZR6 := Lib.hid (HZR5.out.keeps hk6)
  have HR26 := Lib.hid (HR25.out.keeps hk6 (by decide) (by decide))
  have HR36 := Lib.hid (HR35.out.keeps hk6 (by decide) (by decide))
  have HROW6 := Lib.hid (HROW.out.keeps hk6 (by decide) (by decide))
  have HB6 := Lib.hid (HB5.out.trans ⟨hb6, hk6.sk⟩)
  have HK6 := Lib.hid (HK5.out.below hb6)
  have HB6S : Hid (base ≤ w6.heap.size) := Lib.hid (Nat.le_trans HB5S.out hb6.size)
  have HLT6 : Hid (hb5 < w6.heap.size) := Lib.hid (Nat.lt_of_lt_of_le HLT.out hb6.size)
  clear q20 q21 q1 he6 hs6 hp6 hk6 hb6 PUT HS5 HRS5 HZP5 HZR5 HR25 HR35 HROW HB5 HK5 HB5S
  have RPUT : Hid (Calls Try.prog 128 #[.pointer (some ⟨rs, 0, none⟩), .slice A nk c, rz] w6 fun e w' => ∃ A' c' s', e = .returned (.tuple #[.int .i64 (putR s key o).i, .bool (putR s key o).cv, .slice A' (putR s key o).dl.length c', .int .i64 (putR s key o).er]) ∧
      ElemsT w' 3 A' (nats (putR s key o).dl) ∧ RStoreAt base w' rs s' ∧ PutTo r key o w6.heap.size s' ∧ RKeeps w6 w' ∧ Below base w6 w') := Lib.hid (by
    rw [← HNK.out, ← putR_twin HT.out]
    exact rput_zp w6 HRS6.out A c key HK6.out HBY.out HKL.out rz o HZR6.out HB6S.out)
  have q20 := HR26.out.cell 0
  have q21 := HR26.out.cell 1
  have q1 := HR36.out.cell 1
  simp only [List.getElem?_cons_succ, List.getElem?_cons_zero] at q20 q21 q1
  go_wp2_with fail
  refine RPUT.out.mono ?_
  rintro e w7 ⟨A7, c7, r', rfl, he7, hs7, hp7, hk7, hb7⟩
  have HRS7 := Lib.hid hs7
  have HTW := Lib.hid (putTo_twin HT.out HP6.out hp7)
  have HFS := Lib.hid (putTo_far HP6.out HF.out HLT.out)
  have HFR := Lib.hid (putTo_far hp7 HRF.out HLT6.out)
  have HE7 := Lib.hid he7
  have HE67 := Lib.hid (HE6.out.rkeeps hk7 (by decide) (by decide))
  have HS7 := Lib.hid (HS6.out.rkeeps hk7)
  have HZP7 := Lib.hid (HZP6.out.rkeeps hk7)
  have HZR7 := Lib.hid (HZR6.out.rkeeps hk7)
  have HR27 := Lib.hid (HR26.out.rkeeps hk7 (by decide) (by decide))
  have HR37 := Lib.hid (HR36.out.rkeeps hk7 (by decide) (by decide))
  have HROW7 := Lib.hid (HROW6.out.rkeeps hk7 (by decide) (by decide))
  have HB7 := Lib.hid (HB6.out.trans ⟨hb7, hk7.sk⟩)
  have HK7 := Lib.hid (HK6.out.below hb7)
  have HB7S : Hid (base ≤ w7.heap.size) := Lib.hid (Nat.le_trans HB6S.out hb7.size)
  clear q20 q21 q1 he7 hs7 hp7 hk7 hb7 RPUT HS6 HP6 HE6 HRS6 HZP6 HZR6 HR26 HR36 HROW6 HB6 HK6 HB6S HF HRF HLT HLT6
  go_wp2_with fail
  have SC := Lib.hid (same_nats A6 A7 c6 c7 (putR s key o).dl w7 HE67.out.elems HE7.out.elems (putR_len s key o HFEW.out))
  refine SC.out.mono ?_
  rintro e w8 ⟨rfl, hn8⟩
  have HN8 := Lib.hid hn8
  clear hn8 SC
  have KP : Hid (Calls Try.prog 129 #[.slice (some ⟨hb5, 0, none⟩) nk (nk + 9), .slice A nk c] w8 fun e w' => e = .returned (.bool true) ∧ Drew w8 w') := Lib.hid (by
    rw [← HNK.out]
    exact kept_any hb5 A c key w8 (HN8.out.row HROW7.out) ((HK7.out.below (HN8.out.below HB7S.out)).mono (Nat.le_trans HB7S.out HN8.out.size)) HKL.out)
  have q1 := (HN8.out.row HR37.out).cell 1
  simp only [List.getElem?_cons_succ, List.getElem?_cons_zero] at q1
  go_wp2_with fail
  refine KP.out.mono ?_
  rintro e w9 ⟨rfl, hd9⟩
  have HN9 := Lib.hid (HN8.out.trans hd9.new)
  clear q1 hd9 HN8 KP
  go_wp2_with fail
  have HROW9 := Lib.hid (HN9.out.row HROW7.out)
  go_loopw [18] (fun vi wr => ∃ (t : Nat) (l : List Int), t ≤ nk ∧ vi = .int .i64 t ∧ Hid (l.length = nk + 9) ∧ Hid (Row wr hb5 5 (l.map (Value.int .u8))) ∧ Hid (At hb5 w9 wr)) (fun vi _ => nk - (intOf vi).toNat)
  case atStart => exact ⟨0, handL key, Nat.zero_le _, rfl, Lib.hid (by rw [handL_length, HNK.out]), HROW9, Lib.hid (At.refl _ _)⟩
  case round =>
    obtain ⟨t, l, ht, rfl, HLL, HRW, HAT⟩ := hrel
    have hnkl : nk ≤ 140737488355328 := by rw [← HNK.out]; exact HKL.out
    by_cases htl : t < nk
    · as_aux_lemma =>
      have htz : (t : Int) < nk := by omega
      have htl2 : t < l.length := by rw [HLL.out]; omega
      have q1 := HRW.out.cell t
      have f1 := HRW.out.free t
      rw [List.getElem?_map, List.getElem?_eq_getElem htl2] at q1
      have hset : ∀ v : Int, ((l.map (Value.int .u8)).set t (.int .u8 v)) = (l.set t v).map (Value.int .u8) := fun v => by rw [List.map_set]
      have HSET := Lib.hid hset
      have HTL := Lib.hid htl
      clear hset
      generalize l[t] = bv at *
      go_wp2_with fail
      refine ⟨⟨t + 1, l.set t _, HTL.out, by go_num, Lib.hid (by rw [List.length_set]; exact HLL.out), Lib.hid (HSET.out _ ▸ HRW.out.set t _), Lib.hid (HAT.out.set t _)⟩, by have := HTL.out; simp [intOf] <;> omega⟩
    · as_aux_lemma =>
      have htz : ¬ (t : Int) < nk := by omega
      have HATW := HAT
      have HRW2 : Hid (Row wr b2 108 [.pointer (some ⟨ps, 0, none⟩), .pointer (some ⟨rs, 0, none⟩)]) := Lib.hid (HAT.out.row (HN9.out.row HR27.out) ((HN9.out.row HR27.out).ne HROW9.out (by decide)))
      have HRW3 : Hid (Row wr b3 42 [.int .i64 0, .slice A nk c, .int .i64 num, .slice B nc d]) := Lib.hid (HAT.out.row (HN9.out.row HR37.out) ((HN9.out.row HR37.out).ne HROW9.out (by decide)))
      have q20 := HRW2.out.cell 0
      have q21 := HRW2.out.cell 1
      have q1 := HRW3.out.cell 1
      simp only [List.getElem?_cons_succ, List.getElem?_cons_zero] at q20 q21 q1
      have HKB := Lib.hid (HAT.out.keepB HROW9.out)
      have HS9 := Lib.hid ((HS7.out.new HN9.out).far HAT.out HROW9.out HFS.out)
      have HRS9 := Lib.hid ((HRS7.out.new HN9.out).far HAT.out HROW9.out HFR.out)
      have HBF : Hid (BS base w wr) := Lib.hid ((HB7.out.trans (HN9.out.bs HB7S.out)).at_ HAT.out HBH.out HWH.out (Nat.le_trans HB7S.out HN9.out.size))
      have HKF : Hid (Elems wr base A (key.map (Value.int .u8))) := Lib.hid (HK7.out.below ((HN9.out.below HB7S.out).trans (Fr.below HAT.out (Nat.le_trans HB7S.out HN9.out.size) (fun k hk e => by
        have e : k = hb5 := e
        have := HBH.out
        omega))))
      have HBS : Hid (base ≤ wr.heap.size) := Lib.hid (Nat.le_trans HB7S.out (Nat.le_trans HN9.out.size HAT.out.size))
      go_wp2_with fail
      refine (FIN.out wr s' r' HS9.out HRS9.out HTW.out ((HZP7.out.new HN9.out).keepB HKB.out) ((HZR7.out.new HN9.out).keepB HKB.out) HKF.out HBS.out).mono ?_
      rintro e wf ⟨rfl, hnf⟩
      have HNF := Lib.hid hnf
      clear hnf q20 q21 q1
      go_wp2_with fail
      go_ret
      exact ⟨rfl, s', r', HS9.out.new HNF.out, HRS9.out.new HNF.out, HTW.out, HBF.out.trans (HNF.out.bs HBS.out)⟩
theorem step_any {base ps rs : Nat} {s r : Sto} (w : World) (hs : StoreAt base w ps s) (hr : RStoreAt base w rs r) (ht : Twin s r) (hb : base ≤ w.heap.size) (x : Stp) (A B : Option Addr) (c d : Nat)
    (hk : Elems w base A (x.key.map (Value.int .u8))) (hby : Bytes x.key) (hkl : x.key.length ≤ 140737488355328) (hc : Elems w base B (x.cells.map (Value.int .i32))) (hcr : ∀ y ∈ x.cells, -2147483648 ≤ y ∧ y ≤ 2147483647) (hcl : x.cells.length ≤ 140737488355328) :
    Calls Try.prog 63 #[.agg #[.pointer (some ⟨ps, 0, none⟩), .pointer (some ⟨rs, 0, none⟩)], .agg #[.int .i64 x.kind, .slice A x.key.length c, .int .i64 x.n, .slice B x.cells.length d]] w fun e w' =>
      e = .returned (.bool true) ∧ ∃ s' r', StoreAt base w' ps s' ∧ RStoreAt base w' rs r' ∧ Twin s' r' ∧ BS base w w' := by
  by_cases h0 : x.kind = 0
  · exact step_put w hs hr ht hb x A B c d hk hby hkl hc hcr hcl h0
  · by_cases h1 : x.kind = 1
    · exact step_take w hs hr ht hb x A B c d hk hby hkl hc hcr hcl h1
    · exact step_none w hs hr ht hb x A B c d hk hby hkl hc hcr hcl h0 h1
end Go.Proofs.Ytapfihlgemejiaa
