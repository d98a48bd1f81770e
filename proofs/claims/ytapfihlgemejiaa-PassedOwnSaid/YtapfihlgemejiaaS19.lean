/- gnomonmem: the book in memory; TakeBytes, TakeInts. -/
import Derived.Test.YtapfihlgemejiaaS12
import Derived.Test.YtapfihlgemejiaaM4
namespace Go.Proofs.Ytapfihlgemejiaa
open Go.RowKit

def noSl : Value := .slice none 0 0
def bookRow (vb vi : Value) : List Value := [vb, noSl, vi, noSl, noSl, noSl, noSl, noSl, noSl, noSl, noSl, noSl, noSl, noSl]
/-- A book: its lists of bytes and of numbers; what may be written lies from base on. -/
structure BookAt (base : Nat) (w : World) (pb : Nat) (vb vi : Value) (bs is : List Value) : Prop where
  row : Row w pb 65 (bookRow vb vi)
  low : base ≤ pb
  b : w.ownsRow base 30 1 vb bs.length bs
  i : w.ownsRow base 25 1 vi is.length is
/-- All blocks but those of some types are as they were. -/
def KeepsBut (S : TypeId → Prop) (w w' : World) : Prop := ∀ (g : Nat) (cs : Array Value) (t : TypeId) (fr : Nat × Nat), w.heap[g]? = some (Obj.cells cs t fr) → ¬ S t → w'.heap[g]? = w.heap[g]?
theorem KeepsBut.refl (S : TypeId → Prop) (w : World) : KeepsBut S w w := fun _ _ _ _ _ _ => rfl
theorem KeepsBut.trans {S : TypeId → Prop} {a b c : World} (h : KeepsBut S a b) (k : KeepsBut S b c) : KeepsBut S a c := fun g cs t fr hg hs => by
  have e := h g cs t fr hg hs
  exact (k g cs t fr (e.trans hg) hs).trans e
theorem New.keepsBut {a b : World} (h : New a b) (S : TypeId → Prop) : KeepsBut S a b := fun g _ _ _ hg _ => h.block g (Array.getElem?_eq_some_iff.1 hg).1 (fun e => e)
theorem KeepsBut.row {S : TypeId → Prop} {w w' : World} (h : KeepsBut S w w') {g : Nat} {t : TypeId} {cs : List Value} (hr : Row w g t cs) (hs : ¬ S t) : Row w' g t cs := (h g _ t _ hr hs).trans hr
theorem KeepsBut.own {S : TypeId → Prop} {w w' : World} (h : KeepsBut S w w') {base e size n : Nat} {v : Value} {xs : List Value} (ho : w.ownsRow base e size v n xs) (hs : ¬ S e) : w'.ownsRow base e size v n xs :=
  own_keep ho fun g hg => by
    obtain ⟨_, cur, hc⟩ := own_row ho hg
    exact h g cur e _ hc hs
theorem infoOf30 : (Try.prog.info? 30).map (fun i => (i.zero, i.size, i.bytes)) = some (some (.slice none 0 0), 1, 24) := by kernel_rfl
theorem infoOf25 : (Try.prog.info? 25).map (fun i => (i.zero, i.size, i.bytes)) = some (some (.slice none 0 0), 1, 24) := by kernel_rfl
theorem KeepsBut.grown {S : TypeId → Prop} {w w' : World} {base e size n : Nat} {v : Value} {xs : List Value} (ho : w.ownsRow base e size v n xs) (hg : w.grownBy w' v.ownBlock) (hs : S e) : KeepsBut S w w' := fun g cs t fr hc ht =>
  hg.block g (Array.getElem?_eq_some_iff.1 hc).1 (fun e' => by
    obtain ⟨_, cur, h2⟩ := own_row ho e'.symm
    rw [h2] at hc
    simp only [Option.some.injEq, Obj.cells.injEq] at hc
    exact ht (hc.2.1 ▸ hs))
theorem Below.grown_own {w w' : World} {base e size n : Nat} {v : Value} {xs : List Value} (h : w.ownsRow base e size v n xs) (hg : w.grownBy w' v.ownBlock) (hb : base ≤ w.heap.size) : Below base w w' :=
  ⟨hg.os, hg.tape, hg.output, hg.size, fun k hk => hg.block k (by omega) (fun e => by have := (own_row h e.symm).1; omega)⟩
theorem KeepsBut.set {S : TypeId → Prop} {w : World} {g : Nat} {t : TypeId} {cs : List Value} (hr : Row w g t cs) (hs : S t) (i : Nat) (v : Value) : KeepsBut S w (w.setCell ⟨g, i, none⟩ v) := fun k cs' t' fr' hc ht =>
  heap_setCell_other w ⟨g, i, none⟩ k v (fun e => by
    have e : k = g := e
    subst e
    unfold Row at hr
    rw [hr] at hc
    simp only [Option.some.injEq, Obj.cells.injEq] at hc
    exact ht (hc.2.1 ▸ hs))

set_option maxRecDepth 100000 in
set_option maxHeartbeats 1000000 in
theorem takeBytes_any {base pb : Nat} {vb vi : Value} {bs is : List Value} (A : Option Addr) (n c : Nat) (w : World) (h : BookAt base w pb vb vi bs is) (hb : base ≤ w.heap.size) (hl : bs.length ≤ 100000) :
    Calls Try.prog 33 #[.pointer (some ⟨pb, 0, none⟩), .slice A n c] w fun e w' => e = .returned (.tuple #[]) ∧ (∃ v2, BookAt base w' pb v2 vi (bs ++ [.slice A n c]) is) ∧ KeepsBut (fun t => t = 65 ∨ t = 30) w w' ∧ Below base w w' := by
  obtain ⟨i0, hi, hz0, hz1, hz2⟩ := info_parts infoOf30
  have hr := h.row
  have h0 := hr.cell 0
  simp only [bookRow, List.getElem?_cons_zero] at h0
  have hp := hr.lt
  have hn := (New.refl w).alloc (.cells #[.slice A n c] 30)
  have hown := own_new h.b hn
  have hel := elems_new w 30 (.slice A n c)
  have HOWN := Lib.hid hown
  have HEL := Lib.hid hel
  have H := Lib.hid h
  clear hr hown hel h
  go_enter Try.func33, Try.ntmps33
  go_wp2_with (at_builtin; refine wpList_append_elems2 rfl _ _ 50 rfl base 30 i0 (.slice none 0 0) 1 24 Try.underlying50 hi hz0 hz1 hz2 rfl (by decide) _ _ _ rfl HOWN.out (w.heap.size + 1) _ 1 1 [.slice A n c] rfl HEL.out rfl (by simp [Value.oneCell']) ?c1 ?c2 ?c3 ?_)
  case c1 => unfold maxLen; omega
  case c2 => omega
  case c3 => simp; omega
  intro v2 w2 ho hg hloc
  obtain ⟨A2, c2, hv2⟩ := own_form ho
  have hk1 : KeepsBut (fun t => t = 65 ∨ t = 30) w w2 := (hn.keepsBut _).trans (KeepsBut.grown HOWN.out hg (.inr rfl))
  have hb1 : Below base w w2 := (hn.below hb).trans (Below.grown_own HOWN.out hg (by simp; omega))
  have hk0 : KeepsBut (fun t => t = 30) w w2 := (hn.keepsBut _).trans (KeepsBut.grown HOWN.out hg rfl)
  have hr2 := hk0.row H.out.row (by decide)
  have ho2 := hk0.own (H.out.i) (by decide)
  have hp2 := hr2.lt
  have hf2 := hr2.free 0
  have h02 := hr2.cell 0
  simp only [bookRow, List.getElem?_cons_zero] at h02
  have hr3 := hr2.set 0 v2
  have hk3 := KeepsBut.set (S := fun t => t = 65) hr2 rfl 0 v2
  have ho3 := hk3.own ho (by decide)
  have ho4 := hk3.own ho2 (by decide)
  have hk4 := hk1.trans (KeepsBut.set (S := fun t => t = 65 ∨ t = 30) hr2 (.inl rfl) 0 v2)
  have hb4 := hb1.setCell (p := ⟨pb, 0, none⟩) H.out.low v2
  have hlen : (bs ++ [Value.slice A n c]).length = bs.length + 1 := by simp
  have hfin : BookAt base (w2.setCell ⟨pb, 0, none⟩ v2) pb v2 vi (bs ++ [.slice A n c]) is := ⟨hr3, H.out.low, by rw [hlen]; exact ho3, ho4⟩
  have HF := Lib.hid hfin
  clear hr2 ho2 hr3 hk3 ho3 ho4 ho hg hloc hk0 hk1 hb1 hfin HOWN HEL hlen
  subst hv2
  go_wp2
  exact ⟨rfl, .tuple #[], results_none rfl _ _ _, rfl, ⟨_, HF.out⟩, hk4, hb4⟩

set_option maxRecDepth 100000 in
set_option maxHeartbeats 1000000 in
theorem takeInts_any {base pb : Nat} {vb vi : Value} {bs is : List Value} (A : Option Addr) (n c : Nat) (w : World) (h : BookAt base w pb vb vi bs is) (hb : base ≤ w.heap.size) (hl : is.length ≤ 100000) :
    Calls Try.prog 34 #[.pointer (some ⟨pb, 0, none⟩), .slice A n c] w fun e w' => e = .returned (.tuple #[]) ∧ (∃ v2, BookAt base w' pb vb v2 bs (is ++ [.slice A n c])) ∧ KeepsBut (fun t => t = 65 ∨ t = 25) w w' ∧ Below base w w' := by
  obtain ⟨i0, hi, hz0, hz1, hz2⟩ := info_parts infoOf25
  have hr := h.row
  have h0 := hr.cell 2
  simp only [bookRow, List.getElem?_cons_succ, List.getElem?_cons_zero] at h0
  have hp := hr.lt
  have hn := (New.refl w).alloc (.cells #[.slice A n c] 25)
  have hown := own_new h.i hn
  have hel := elems_new w 25 (.slice A n c)
  have HOWN := Lib.hid hown
  have HEL := Lib.hid hel
  have H := Lib.hid h
  clear hr hown hel h
  go_enter Try.func34, Try.ntmps34
  go_wp2_with (at_builtin; refine wpList_append_elems2 rfl _ _ 52 rfl base 25 i0 (.slice none 0 0) 1 24 Try.underlying52 hi hz0 hz1 hz2 rfl (by decide) _ _ _ rfl HOWN.out (w.heap.size + 1) _ 1 1 [.slice A n c] rfl HEL.out rfl (by simp [Value.oneCell']) ?c1 ?c2 ?c3 ?_)
  case c1 => unfold maxLen; omega
  case c2 => omega
  case c3 => simp; omega
  intro v2 w2 ho hg hloc
  obtain ⟨A2, c2, hv2⟩ := own_form ho
  have hk1 : KeepsBut (fun t => t = 65 ∨ t = 25) w w2 := (hn.keepsBut _).trans (KeepsBut.grown HOWN.out hg (.inr rfl))
  have hb1 : Below base w w2 := (hn.below hb).trans (Below.grown_own HOWN.out hg (by simp; omega))
  have hk0 : KeepsBut (fun t => t = 25) w w2 := (hn.keepsBut _).trans (KeepsBut.grown HOWN.out hg rfl)
  have hr2 := hk0.row H.out.row (by decide)
  have ho2 := hk0.own (H.out.b) (by decide)
  have hp2 := hr2.lt
  have hf2 := hr2.free 2
  have h02 := hr2.cell 2
  simp only [bookRow, List.getElem?_cons_succ, List.getElem?_cons_zero] at h02
  have hr3 := hr2.set 2 v2
  have hk3 := KeepsBut.set (S := fun t => t = 65) hr2 rfl 2 v2
  have ho3 := hk3.own ho (by decide)
  have ho4 := hk3.own ho2 (by decide)
  have hk4 := hk1.trans (KeepsBut.set (S := fun t => t = 65 ∨ t = 25) hr2 (.inl rfl) 2 v2)
  have hb4 := hb1.setCell (p := ⟨pb, 2, none⟩) H.out.low v2
  have hlen : (is ++ [Value.slice A n c]).length = is.length + 1 := by simp
  have hfin : BookAt base (w2.setCell ⟨pb, 2, none⟩ v2) pb vb v2 bs (is ++ [.slice A n c]) := ⟨hr3, H.out.low, ho4, by rw [hlen]; exact ho3⟩
  have HF := Lib.hid hfin
  clear hr2 ho2 hr3 hk3 ho3 ho4 ho hg hloc hk0 hk1 hb1 hfin HOWN HEL hlen
  subst hv2
  go_wp2
  exact ⟨rfl, .tuple #[], results_none rfl _ _ _, rfl, ⟨_, HF.out⟩, hk4, hb4⟩
end Go.Proofs.Ytapfihlgemejiaa
