/- Lists in blocks of their own: what they hold, what leaves them alone; slices.Clone at []int. -/
import Derived.Test.YtapfihlgemejiaaM3
namespace Go.Proofs.Ytapfihlgemejiaa
open Go.RowKit
theorem New.grown {a b c : World} {row : Option Nat} (h : New a b) (hg : b.grownBy c row) (hr : ∀ k, row = some k → a.heap.size ≤ k) : New a c :=
  ⟨hg.os.trans h.os, hg.tape.trans h.tape, hg.output.trans h.output, Nat.le_trans h.size hg.size, fun k hk _ =>
    (hg.block k (Nat.lt_of_lt_of_le hk h.size) (fun e => by have := hr k e.symm; omega)).trans (h.block k hk (fun e => e))⟩
theorem Row.new_at (w : World) (t : TypeId) (cs : List Value) {g : Nat} (hg : g = w.heap.size) : Row (w.alloc (.cells cs.toArray t)) g t cs := by
  subst hg; exact Row.new w t cs
theorem infoOf3 : (Try.prog.info? 3).map (fun i => (i.zero, i.size, i.bytes)) = some (some (.int .i64 0), 1, 8) := by kernel_rfl
theorem Elems.nil_addr {w : World} {B : Nat} {xs : List Value} (h : Elems w B none xs) : xs = [] := by
  rcases Nat.eq_zero_or_pos xs.length with h0 | h0
  · exact List.eq_nil_of_length_eq_zero h0
  · obtain ⟨_, _, e, _⟩ := h h0; cases e
theorem own_empty (w : World) (base e size : Nat) (hb : base ≤ w.heap.size) : (w.alloc (.cells #[] e)).ownsRow base e size (.slice (some ⟨w.heap.size, 0, none⟩) 0 0) 0 [] :=
  World.ownsRow_made w #[] 0 hb (Nat.zero_le _) (by simp)
theorem clone_ints_nil (n c : Nat) (w : World) : Calls Try.prog 91 #[.slice none n c] w fun e w' => e = .returned (.slice none 0 0) ∧ w = w' := by
  have q : ∀ (w : World) (a : Option Addr) (n c n' c' : Nat), (binOp .eql 25 (.slice a n c) (.slice none n' c')).run Try.prog w = .ok (.bool a.isNone) w := fun w a n c n' c' => Lib.run_eql_slice_nil w _ _ a n c n' c' Try.underlying25
  go_enter Try.func91, Try.ntmps91
  go_wp2
  go_ret
  exact ⟨rfl, rfl⟩
set_option maxHeartbeats 400000 in
/-- slices.Clone: the same numbers in new memory. -/
theorem clone_ints (A : Option Addr) (c : Nat) (l : List Value) (w : World) (hA : Elems w w.heap.size A l) (h1 : ∀ u ∈ l, u.oneCell' = true) (hl : l.length ≤ 4096) :
    Calls Try.prog 91 #[.slice A l.length c] w fun e w' => ∃ A' c', e = .returned (.slice A' l.length c') ∧ w'.ownsRow w.heap.size 3 1 (.slice A' l.length c') l.length l ∧ New w w' := by
  cases A with
  | none =>
    have hk : l = [] := hA.nil_addr
    subst hk
    refine (clone_ints_nil _ c w).mono ?_
    rintro e w' ⟨rfl, rfl⟩
    exact ⟨_, _, rfl, World.ownsRow_nil _ _ _ _, New.refl _⟩
  | some ad =>
    have q : ∀ (w : World) (a : Option Addr) (n c n' c' : Nat), (binOp .eql 25 (.slice a n c) (.slice none n' c')).run Try.prog w = .ok (.bool a.isNone) w := fun w a n c n' c' => Lib.run_eql_slice_nil w _ _ a n c n' c' Try.underlying25
    obtain ⟨i0, hi, hz0, hz1, hz2⟩ := info_parts infoOf3
    have HA := Lib.hid (hA.new ((New.refl w).alloc (.cells #[] 3)) (Nat.le_refl _))
    have H1 := Lib.hid h1
    clear hA h1
    go_enter Try.func91, Try.ntmps91
    go_wp2_with (at_builtin; refine wpList_append_elems rfl _ _ 25 rfl w.heap.size 3 i0 (.int .i64 0) 1 8 Try.underlying25 hi hz0 hz1 hz2 rfl (by decide) _ 0 [] rfl (own_empty w w.heap.size 3 1 (Nat.le_refl _)) w.heap.size _ _ _ l rfl HA.out (by simp) H1.out ?c1 ?c2 ?c3 ?_)
    case c1 => unfold maxLen; omega
    case c2 => omega
    case c3 => simp
    intro v' w' ho hg _
    have hn : New w w' := ((New.refl w).alloc (.cells #[] 3)).grown hg (fun k hk => by cases hk; exact Nat.le_refl _)
    obtain ⟨A', c', rfl⟩ := own_form ho
    go_wp2
    go_ret
    exact ⟨_, _, rfl, ho, hn⟩
theorem infoOf25 : (Try.prog.info? 25).map (fun i => (i.zero, i.size, i.bytes)) = some (some (.slice none 0 0), 1, 24) := by kernel_rfl
section
variable {w w' : World} {base e size n : Nat} {v : Value} {xs : List Value}
theorem own_keep (h : w.ownsRow base e size v n xs) (hk : ∀ g, v.ownBlock = some g → w'.heap[g]? = w.heap[g]?) : w'.ownsRow base e size v n xs := by
  refine ⟨h.1, ?_⟩
  rcases h.2 with h2 | ⟨g, cap, cur, hv, hb, hg, r⟩
  · exact .inl h2
  · exact .inr ⟨g, cap, cur, hv, hb, (hk g (by rw [hv]; rfl)).trans hg, r⟩
theorem own_row (h : w.ownsRow base e size v n xs) {g : Nat} (hg : v.ownBlock = some g) : base ≤ g ∧ ∃ cur, w.heap[g]? = some (Obj.cells cur e (0, 0)) := by
  rcases h.2 with ⟨rfl, _⟩ | ⟨g', cap, cur, rfl, hb, hg', _⟩
  · cases hg
  · cases hg; exact ⟨hb, cur, hg'⟩
theorem own_ne (h : w.ownsRow base e size v n xs) {g : Nat} {cs : Array Value} {t : TypeId} {fr : Nat × Nat} (hg : w.heap[g]? = some (Obj.cells cs t fr)) (hne : e ≠ t) : v.ownBlock ≠ some g := by
  intro hb
  obtain ⟨_, cur, h2⟩ := own_row h hb
  rw [hg] at h2
  simp only [Option.some.injEq, Obj.cells.injEq] at h2
  exact hne h2.2.1.symm
theorem own_ne_map (h : w.ownsRow base e size v n xs) {g : Nat} {l : List (ByteArray × Value)} (hg : MapAt w g l) : v.ownBlock ≠ some g := by
  intro hb
  obtain ⟨_, cur, h2⟩ := own_row h hb
  obtain ⟨es, clock, h3, _⟩ := hg
  rw [h3] at h2
  cases h2
theorem own_ne_own {base' e' size' n' : Nat} {v' : Value} {xs' : List Value} (h : w.ownsRow base e size v n xs) (h' : w.ownsRow base' e' size' v' n' xs') (hne : e ≠ e') {g : Nat} (hg : v.ownBlock = some g) : v'.ownBlock ≠ some g := by
  obtain ⟨_, cur, h2⟩ := own_row h hg
  exact own_ne h' h2 (fun e => hne e.symm)
theorem own_new (h : w.ownsRow base e size v n xs) (hn : New w w') : w'.ownsRow base e size v n xs :=
  own_keep h fun g hg => by
    obtain ⟨_, cur, h2⟩ := own_row h hg
    exact hn.block g (Array.getElem?_eq_some_iff.1 h2).1 (fun e => e)
theorem own_set {g c : Nat} (h : w.ownsRow base e size (.slice (some ⟨g, 0, none⟩) n c) n xs) (j : Nat) (u : Value) :
    (w.setCell ⟨g, j, none⟩ u).ownsRow base e size (.slice (some ⟨g, 0, none⟩) n c) n (xs.set j u) := by
  refine ⟨by rw [List.length_set]; exact h.1, ?_⟩
  rcases h.2 with ⟨h2, _⟩ | ⟨g', cap, cur, hv, hb, hg, hnc, hcm, hcs, ht⟩
  · cases h2
  · cases hv
    refine .inr ⟨g, c, cur.setIfInBounds j u, rfl, hb, heap_setCell_same w g j cur e u hg, hnc, hcm, by simp [hcs], ?_⟩
    rw [← ht]
    simp only [Array.toList_setIfInBounds]
    rw [List.take_set]
end
def nats (l : List Nat) : List Value := l.map fun i : Nat => Value.int .i64 i
theorem nats_length (l : List Nat) : (nats l).length = l.length := by simp [nats]
theorem elems_new (w : World) (t : TypeId) (v : Value) : Elems (w.alloc (.cells #[v] t)) (w.heap.size + 1) (some ⟨w.heap.size, 0, none⟩) [v] := fun _ =>
  ⟨w.heap.size, 0, rfl, by omega, fun j u hu => by
    have : j = 0 := by have := (List.getElem?_eq_some_iff.1 hu).1; simpa using this
    subst this
    rw [World.cell?_alloc_new]; simpa using hu⟩
theorem elems_news (w : World) (t : TypeId) (cs : List Value) : Elems (w.alloc (.cells cs.toArray t)) (w.heap.size + 1) (some ⟨w.heap.size, 0, none⟩) cs := fun _ =>
  ⟨w.heap.size, 0, rfl, by omega, fun j u hu => by
    rw [World.cell?_alloc_new, Nat.zero_add]; simpa using hu⟩
theorem own_lower {w : World} {base base' e size n : Nat} {v : Value} {xs : List Value} (h : w.ownsRow base e size v n xs) (hb : base' ≤ base) : w.ownsRow base' e size v n xs := by
  refine ⟨h.1, ?_⟩
  rcases h.2 with h2 | ⟨g, cap, cur, hv, hbg, r⟩
  · exact .inl h2
  · exact .inr ⟨g, cap, cur, hv, by omega, r⟩
theorem nats_set (l : List Nat) (i x : Nat) : (nats l).set i (.int .i64 x) = nats (l.set i x) := by simp [nats, List.map_set]
theorem nats_get (l : List Nat) (i : Nat) (h : i < l.length) : (nats l)[i]? = some (.int .i64 (l.getD i 0 : Nat)) := by
  unfold nats
  rw [List.getElem?_map, List.getElem?_eq_getElem h, List.getD_eq_getElem?_getD, List.getElem?_eq_getElem h]; rfl
theorem own_cell {w : World} {base e size n : Nat} {A : Option Addr} {c : Nat} {xs : List Value} (h : w.ownsRow base e size (.slice A n c) n xs) (hn : 0 < xs.length) :
    ∃ g, A = some ⟨g, 0, none⟩ ∧ base ≤ g ∧ g < w.heap.size ∧ (∀ j u, xs[j]? = some u → w.cell? ⟨g, j, none⟩ = some u) ∧ ∀ k, w.frozen? ⟨g, k, none⟩ = false := by
  rcases h.2 with ⟨_, h0⟩ | ⟨g, cap, cur, hv, hb, hg, _, _, _, ht⟩
  · have := h.1; subst h0; simp at this; subst this; simp at hn
  · injection hv with hA _ _
    subst hA
    refine ⟨g, rfl, hb, (Array.getElem?_eq_some_iff.1 hg).1, fun j u hu => ?_, fun k => frozen_of_row w g k cur e hg⟩
    rw [cell_of_row w g j cur e (0, 0) hg]
    rw [← ht, List.getElem?_take] at hu
    split at hu
    · simpa using hu
    · cases hu
end Go.Proofs.Ytapfihlgemejiaa
