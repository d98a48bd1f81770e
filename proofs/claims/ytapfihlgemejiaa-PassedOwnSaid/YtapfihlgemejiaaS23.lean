/- gnomonmem: Alone. -/
import Derived.Test.YtapfihlgemejiaaS17
import Derived.Test.YtapfihlgemejiaaS21
namespace Go.Proofs.Ytapfihlgemejiaa
open Go.RowKit

theorem KeepsBut.mono {S T : TypeId → Prop} {w w' : World} (h : KeepsBut S w w') (hs : ∀ t, S t → T t) : KeepsBut T w w' := fun g cs t fr hg ht => h g cs t fr hg (fun e => ht (hs t e))
/-- What the walk has turned when the book is emptied. -/
def Emptied (base pb : Nat) (w x : World) : Prop := KeepsBut (fun t => t = 3 ∨ t = 5 ∨ t = 65) w x ∧ (∃ cs, Row x pb 65 cs) ∧ base ≤ pb ∧ Below base w x
theorem Emptied.set {base pb : Nat} {w x : World} (h : Emptied base pb w x) (i : Nat) (v : Value) : Emptied base pb w (x.setCell ⟨pb, i, none⟩ v) := by
  obtain ⟨h1, ⟨cs, h2⟩, h3, h4⟩ := h
  exact ⟨h1.trans (KeepsBut.set (S := fun t => t = 3 ∨ t = 5 ∨ t = 65) h2 (.inr (.inr rfl)) i v), ⟨_, h2.set i v⟩, h3, h4.setCell (p := ⟨pb, i, none⟩) h3 v⟩
set_option maxRecDepth 100000 in
set_option maxHeartbeats 4000000 in
theorem alone_any {base pb : Nat} {vb vi : Value} {bs is : List Value} {ys zs : Nat → List Int} (w : World) (h : BookAt base w pb vb vi bs is) (hfb : Fam base w 5 .u8 bs ys) (hfi : Fam base w 3 .i64 is zs)
    (hlb : ∀ i, (ys i).length ≤ 140737488351232) (hli : ∀ i, (zs i).length ≤ 4096) (hmb : bs.length ≤ 100000) (hmi : is.length ≤ 100000) (hb : base ≤ w.heap.size) :
    Calls Try.prog 36 #[.pointer (some ⟨pb, 0, none⟩)] w fun e w' => e = .returned (.bool true) ∧ KeepsBut (fun t => t = 3 ∨ t = 5 ∨ t = 65) w w' ∧ Below base w w' := by
  have C1 := Lib.hid (aloneBytes_any w h hfb hlb hmb hb)
  have HB1 := Lib.hid (fun w' (hk : KeepsBut (fun t => t = 5) w w') => BookAt.keep h hk (by decide) (by decide) (by decide))
  have HF1 := Lib.hid (fun w' (hk : KeepsBut (fun t => t = 5) w w') => Fam.keep hfi hk (by decide))
  clear h hfb hfi hlb hmb
  go_enter Try.func36, Try.ntmps36
  go_wp2_with fail
  refine C1.out.mono ?_
  rintro e w1 ⟨rfl, hk1, hb1⟩
  have h1 := HB1.out w1 hk1
  have hsz1 : base ≤ w1.heap.size := Nat.le_trans hb hb1.size
  have C2 := Lib.hid (aloneInts_any w1 h1 (HF1.out w1 hk1) hli hmi hsz1)
  have HB2 := Lib.hid (fun w' (hk : KeepsBut (fun t => t = 3) w1 w') => BookAt.keep h1 hk (by decide) (by decide) (by decide))
  have N93 := Lib.hid (alone93_nil (w := w1) (pb := pb) (h1.row.cell 1))
  have K1 := Lib.hid (And.intro hk1 hb1)
  clear C1 HB1 HF1 hk1 hb1 h1 hsz1 hli hmi
  go_wp2_with fail
  refine N93.out.mono ?_
  rintro e w' ⟨rfl, rfl⟩
  go_wp2_with fail
  refine C2.out.mono ?_
  rintro e w2 ⟨rfl, hk2, hb2⟩
  have h2 := HB2.out w2 hk2
  have hpb := h2.row.lt
  have r0 := h2.row.cell 0
  have f0 := h2.row.free 0
  have r1 := h2.row.cell 1
  have f1 := h2.row.free 1
  have r2 := h2.row.cell 2
  have f2 := h2.row.free 2
  have r3 := h2.row.cell 3
  have f3 := h2.row.free 3
  have r4 := h2.row.cell 4
  have f4 := h2.row.free 4
  have r5 := h2.row.cell 5
  have f5 := h2.row.free 5
  have r6 := h2.row.cell 6
  have f6 := h2.row.free 6
  have r7 := h2.row.cell 7
  have f7 := h2.row.free 7
  have r8 := h2.row.cell 8
  have f8 := h2.row.free 8
  have r9 := h2.row.cell 9
  have f9 := h2.row.free 9
  have r10 := h2.row.cell 10
  have f10 := h2.row.free 10
  have r11 := h2.row.cell 11
  have f11 := h2.row.free 11
  have r12 := h2.row.cell 12
  have f12 := h2.row.free 12
  have r13 := h2.row.cell 13
  have f13 := h2.row.free 13
  simp only [bookRow, noSl, List.getElem?_cons_succ, List.getElem?_cons_zero] at r0 r1 r2 r3 r4 r5 r6 r7 r8 r9 r10 r11 r12 r13
  have N95 := Lib.hid (alone95_nil (w := w2) (pb := pb) r3)
  have N96 := Lib.hid (alone96_nil (w := w2) (pb := pb) r4)
  have N97 := Lib.hid (alone97_nil (w := w2) (pb := pb) r5)
  have N98 := Lib.hid (alone98_nil (w := w2) (pb := pb) r6)
  have N99 := Lib.hid (alone99_nil (w := w2) (pb := pb) r7)
  have N100 := Lib.hid (alone100_nil (w := w2) (pb := pb) r8)
  have N101 := Lib.hid (alone101_nil (w := w2) (pb := pb) r9)
  have N102 := Lib.hid (alone102_nil (w := w2) (pb := pb) r10)
  have N103 := Lib.hid (alone103_nil (w := w2) (pb := pb) r11)
  have N104 := Lib.hid (alone104_nil (w := w2) (pb := pb) r12)
  have N105 := Lib.hid (alone105_nil (w := w2) (pb := pb) r13)
  obtain ⟨Ab, cb, hvb⟩ := own_form h2.b
  obtain ⟨Ai, ci, hvi⟩ := own_form h2.i
  have hlow := h2.low
  have HR := Lib.hid h2.row
  have K2 := Lib.hid (And.intro (hk2) hb2)
  rw [hvb] at r0
  rw [hvi] at r2
  clear C2 HB2 N93 hk2 hb2 h2 hvb hvi
  go_wp2_with fail
  refine N95.out.mono ?_
  rintro e w' ⟨rfl, rfl⟩
  go_wp2_with fail
  refine N96.out.mono ?_
  rintro e w' ⟨rfl, rfl⟩
  go_wp2_with fail
  refine N97.out.mono ?_
  rintro e w' ⟨rfl, rfl⟩
  go_wp2_with fail
  refine N98.out.mono ?_
  rintro e w' ⟨rfl, rfl⟩
  go_wp2_with fail
  refine N99.out.mono ?_
  rintro e w' ⟨rfl, rfl⟩
  go_wp2_with fail
  refine N100.out.mono ?_
  rintro e w' ⟨rfl, rfl⟩
  go_wp2_with fail
  refine N101.out.mono ?_
  rintro e w' ⟨rfl, rfl⟩
  go_wp2_with fail
  refine N102.out.mono ?_
  rintro e w' ⟨rfl, rfl⟩
  go_wp2_with fail
  refine N103.out.mono ?_
  rintro e w' ⟨rfl, rfl⟩
  go_wp2_with fail
  refine N104.out.mono ?_
  rintro e w' ⟨rfl, rfl⟩
  go_wp2_with fail
  refine N105.out.mono ?_
  rintro e w' ⟨rfl, rfl⟩
  have hem : Emptied base pb w w2 := ⟨(K1.out.1.mono (fun t e => .inr (.inl e))).trans (K2.out.1.mono (fun t e => .inl e)), ⟨_, HR.out⟩, hlow, K1.out.2.trans K2.out.2⟩
  have HE := Lib.hid hem
  clear hem hlow HR K1 K2
  go_wp2_with fail
  go_ret
  have h14 := ((((((((((((((HE.out.set 0 (.slice none 0 0)).set 1 (.slice none 0 0)).set 2 (.slice none 0 0)).set 3 (.slice none 0 0)).set 4 (.slice none 0 0)).set 5 (.slice none 0 0)).set 6 (.slice none 0 0)).set 7 (.slice none 0 0)).set 8 (.slice none 0 0)).set 9 (.slice none 0 0)).set 10 (.slice none 0 0)).set 11 (.slice none 0 0)).set 12 (.slice none 0 0)).set 13 (.slice none 0 0))
  exact ⟨rfl, h14.1, h14.2.2.2⟩
end Go.Proofs.Ytapfihlgemejiaa
