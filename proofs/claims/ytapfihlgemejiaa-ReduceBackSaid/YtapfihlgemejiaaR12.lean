/- reduce.Few: its closure put. -/
import Derived.Test.YtapfihlgemejiaaR11
import Derived.Test.YtapfihlgemejiaaD4
import Derived.Test.YtapfihlgemejiaaM4
namespace Go.Proofs.Ytapfihlgemejiaa
open Go.RowKit Go.Proofs.YtapfihlgemejiaaW.PrintLast
def r139T : Bool × List (List Nat × List Nat) := (true, [([], []), ([], []), ([], []), ([], []), ([], []), ([], []), ([3, 4, 5], [3, 4, 5]), ([1, 2, 6], [1, 2, 6]), ([7], [7]), ([0, 8, 6], [0, 8]), ([9, 9, 0, 1, 2, 3, 4, 5, 6, 7, 8, 9], [9])])
def r139B : List Nat := [0, 0, 0, 0, 0, 0, 56, 126, 254, 511, 1023]
theorem r139Tab : rtab .any (opsOf Try.f139 0) = r139T := by kernel_rfl
theorem r139Bits : waitsOk r139T.2 r139B = true := by kernel_rfl
theorem infoOf100 : (Try.prog.info? 100).map (fun i => (i.zero, i.size, i.bytes)) = some (some (.agg #[.int .i64 0, .int .i64 0, .int .i32 0]), 3, 24) := by kernel_rfl
/-- What 'put' leaves. -/
def PutPost (base go : Nat) (v : Value) (l : List Lim) (x : Lim) (w : World) (e : Ending) (w' : World) : Prop :=
  e = .returned (.tuple #[]) ∧ ∃ v', Row w' go 113 [v'] ∧ w'.ownsRow base 100 3 v' (l.length + 1) (limRow (l ++ [x])) ∧ Fr (fun k => k = go ∨ v.ownBlock = some k) w w' ∧ (v'.ownBlock = v.ownBlock ∨ ∃ g, v'.ownBlock = some g ∧ w.heap.size ≤ g)
set_option maxRecDepth 100000 in
set_option maxHeartbeats 4000000 in
theorem put_any (b gr go base i j : Nat) (z : Zn) (v : Value) (l : List Lim) (w : World) (h : ZoneAt w b z) (hr : Row w gr 196 [.pointer (some ⟨b, 0, none⟩)]) (hgo : Row w go 113 [v])
    (ho : w.ownsRow base 100 3 v l.length (limRow l)) (hl : l.length ≤ 200) (hi : i ≤ z.n) (hj : j ≤ z.n) (hb : base ≤ w.heap.size) :
    Calls Try.prog 139 #[.int .i64 i, .int .i64 j, .pointer (some ⟨go, 0, none⟩), .pointer (some ⟨gr, 0, none⟩)] w (PutPost base go v l ⟨i, j, cellN z.Z i j⟩ w) := by
  have AT := Lib.hid (fun W (hn : New w W) => at_any b z i j W (h.new hn) hi hj)
  have e0 : cellN z.Z i j = gt z.Z (9 * i + j) := rfl
  rw [e0]
  generalize gt z.Z (9 * i + j) = x at *
  obtain ⟨i0, hi0, hz0, hz1, hz2⟩ := info_parts infoOf100
  have HO := Lib.hid ho
  clear h ho e0
  go_enter Try.func139, Try.ntmps139
  go_wp2_with fail
  refine start_ (n := 11) (S := fun W => Row W go 113 [v] ∧ Row W gr 196 [.pointer (some ⟨b, 0, none⟩)]) (ds := [10]) #[false, false, false, false, false, false, false, false, false, false, false] (by kernel_rfl) rfl rfl ⟨hgo.drew, hr.drew⟩ (fun hHeld => ?_); refine with_tabW r139Tab r139Bits (fun HT_ HW_ => ?_)
  have hD : New w w.drew := (New.refl w).drew
  generalize w.drew = wd at hHeld hD ⊢
  refine pure_ (i := 1) (N := some 7) (v := ?_) (a' := ?_) #[false, true, false, false, false, false, false, false, false, false, false] rfl rfl (any_of HT_.out (by kernel_rfl)) (fun _ _ _ h => h) (Or.inl ⟨by rfl, ?_⟩) ?_ ?_
  rotate_left
  · intro w'
    go_simp
    with_reducible rfl
  rotate_left
  · simp only [Act.put, List.setIfInBounds_toArray, List.set_cons_zero, List.set_cons_succ]
    rfl
  refine pure_ (i := 2) (N := some 8) (v := ?_) (a' := ?_) #[false, true, true, false, false, false, false, false, false, false, false] rfl rfl (any_of HT_.out (by kernel_rfl)) (fun _ _ _ h => h) (Or.inl ⟨by rfl, ?_⟩) ?_ ?_
  rotate_left
  · intro w'
    go_simp
    with_reducible rfl
  rotate_left
  · simp only [Act.put, List.setIfInBounds_toArray, List.set_cons_zero, List.set_cons_succ]
    rfl
  refine pure_ (i := 4) (N := some 10) (v := ?_) (a' := ?_) #[false, true, true, false, true, false, false, false, false, false, false] rfl rfl (any_of HT_.out (by kernel_rfl)) (fun _ _ _ h => h) (Or.inl ⟨by rfl, ?_⟩) ?_ ?_
  rotate_left
  · intro w'
    go_simp
    with_reducible rfl
  rotate_left
  · simp only [Act.put, List.setIfInBounds_toArray, List.set_cons_zero, List.set_cons_succ]
    rfl
  refine pure_ (i := 5) (N := some 11) (v := ?_) (a' := ?_) #[false, true, true, false, true, true, false, false, false, false, false] rfl rfl (any_of HT_.out (by kernel_rfl)) (fun _ _ _ h => h) (Or.inl ⟨by rfl, ?_⟩) ?_ ?_
  rotate_left
  · intro w'
    go_simp
    with_reducible rfl
  rotate_left
  · simp only [Act.put, List.setIfInBounds_toArray, List.set_cons_zero, List.set_cons_succ]
    rfl
  refine take_ (i := 0) (N := some 6) (v := ?_) (a' := ?_) #[true, true, true, false, true, true, false, false, false, false, false] rfl rfl (take_ofW HT_.out HW_.out (by kernel_rfl)) (fun _ _ _ h => h) (Or.inl ⟨by rfl, ?_⟩) hHeld ?_ ?_
  rotate_left
  · intro w' hkt
    have s1 := hkt.1.cell 0
    have s2 := hkt.2.cell 0
    simp only [List.getElem?_cons_zero] at s1 s2
    go_simp
    with_reducible rfl
  rotate_left
  · simp only [Act.put, List.setIfInBounds_toArray, List.set_cons_zero, List.set_cons_succ]
    rfl
  refine take_ (i := 3) (N := some 9) (v := ?_) (a' := ?_) #[true, true, true, true, true, true, false, false, false, false, false] rfl rfl (take_ofW HT_.out HW_.out (by kernel_rfl)) (fun _ _ _ h => h) (Or.inl ⟨by rfl, ?_⟩) hHeld ?_ ?_
  rotate_left
  · intro w' hkt
    have s1 := hkt.1.cell 0
    have s2 := hkt.2.cell 0
    simp only [List.getElem?_cons_zero] at s1 s2
    go_simp
    with_reducible rfl
  rotate_left
  · simp only [Act.put, List.setIfInBounds_toArray, List.set_cons_zero, List.set_cons_succ]
    rfl
  refine one_ (i := 6) (N := some 12) #[true, true, true, true, true, true, true, false, false, false, false] rfl rfl (one_of HT_.out (by kernel_rfl)) (by decide) (fun K hK => ?_)
  refine goes_ Try.func140 (by kernel_rfl) rfl #[.agg #[.pointer (some ⟨b, 0, none⟩)], .int .i64 i, .int .i64 j] (by rfl) rfl rfl (by (try simp only [List.map_toArray, List.map_cons, List.map_nil]); first | done | rfl) ?_
  refine (AT.out _ hD).mono ?_
  rintro e w1 ⟨rfl, hn1⟩
  have hN1 := hD.trans hn1
  refine ⟨_, rfl, ?_⟩
  refine hK.out _ _ ⟨hn1.row hHeld.1, hn1.row hHeld.2⟩ (fun hHeld => ?_)
  clear hK K
  refine norm_ (a' := ?_) ?_ ?_
  rotate_left
  · show Act.put _ (some 12) _ = _
    simp only [Act.put, List.setIfInBounds_toArray, List.set_cons_zero, List.set_cons_succ]
    rfl
  refine pure_ (i := 7) (N := some 13) (v := ?_) (a' := ?_) #[true, true, true, true, true, true, true, true, false, false, false] rfl rfl (any_of HT_.out (by kernel_rfl)) (fun _ _ _ h => h) (Or.inl ⟨by rfl, ?_⟩) ?_ ?_
  rotate_left
  · intro w'
    go_simp
    with_reducible rfl
  rotate_left
  · simp only [Act.put, List.setIfInBounds_toArray, List.set_cons_zero, List.set_cons_succ]
    rfl
  refine one_ (i := 8) (N := some 14) #[true, true, true, true, true, true, true, true, true, false, false] rfl rfl (one_of HT_.out (by kernel_rfl)) (by decide) (fun K hK => ?_)
  refine gives_ (v := .slice (some ⟨w1.heap.size, 0, none⟩) 1 1) (w1 := w1.alloc (.cells #[.int .i64 i, .int .i64 j, .int .i32 x] 100)) (by rfl) rfl (by go_simp) ?_
  refine hK.out _ _ ⟨hHeld.1.alloc _, hHeld.2.alloc _⟩ (fun hHeld => ?_)
  clear hK K
  refine norm_ (a' := ?_) ?_ ?_
  rotate_left
  · show Act.put _ (some 14) _ = _
    simp only [Act.put, List.setIfInBounds_toArray, List.set_cons_zero, List.set_cons_succ]
    rfl
  have hN2 := hN1.alloc (.cells #[.int .i64 (i : Int), .int .i64 (j : Int), .int .i32 x] 100)
  have hown := own_new HO.out hN2
  have hel := elems_news w1 100 [.int .i64 (i : Int), .int .i64 (j : Int), .int .i32 x]
  have hsz2 : base ≤ (w1.alloc (.cells #[.int .i64 (i : Int), .int .i64 (j : Int), .int .i32 x] 100)).heap.size := Nat.le_trans hb hN2.size
  rw [show ([.int .i64 (i : Int), .int .i64 (j : Int), .int .i32 x] : List Value).toArray = #[.int .i64 (i : Int), .int .i64 (j : Int), .int .i32 x] from rfl] at hel
  generalize w1.alloc (.cells #[.int .i64 (i : Int), .int .i64 (j : Int), .int .i32 x] 100) = w2 at hN2 hown hel hHeld hsz2 ⊢
  generalize w1.heap.size = gn at hel ⊢
  obtain ⟨v', w3, hrun, ho3, hg3, hb3⟩ := run_append_elems2 (P := Try.prog) w2 base 113 113 100 i0 (.agg #[.int .i64 0, .int .i64 0, .int .i32 0]) 3 24 Try.underlying113 hi0 hz0 hz1 hz2 rfl (by decide) _ _ _ hown _ _ 1 1 [.int .i64 (i : Int), .int .i64 (j : Int), .int .i32 x] hel rfl (by intro u hu; simp at hu; rcases hu with rfl | rfl | rfl <;> rfl) (by unfold maxLen; omega) (by omega) hsz2
  have hgF := Fr.of_grown (S := fun k => v.ownBlock = some k) hg3 (fun k hk _ => hk)
  refine one_ (i := 9) (N := some 15) #[true, true, true, true, true, true, true, true, true, true, false] rfl rfl (one_of HT_.out (by kernel_rfl)) (by decide) (fun K hK => ?_)
  refine gives_ (v := v') (w1 := w3) (by rfl) rfl (exec_append rfl rfl rfl hrun) ?_
  refine hK.out _ _ ⟨hgF.row hHeld.1 (fun e => own_ne hown hHeld.1 (by decide) e), hgF.row hHeld.2 (fun e => own_ne hown hHeld.2 (by decide) e)⟩ (fun hHeld => ?_)
  clear hK K
  refine norm_ (a' := ?_) ?_ ?_
  rotate_left
  · show Act.put _ (some 15) _ = _
    simp only [Act.put, List.setIfInBounds_toArray, List.set_cons_zero, List.set_cons_succ]
    rfl
  refine last_ (i := 10) (N := none) #[true, true, true, true, true, true, true, true, true, true, true] rfl rfl (one_of HT_.out (by kernel_rfl)) (by decide) (fun K hK => ?_)
  have cgo : w3.cell? ⟨go, 0, none⟩ = some v := hHeld.1.cell 0
  have fgo : w3.frozen? ⟨go, 0, none⟩ = false := hHeld.1.free 0
  obtain ⟨Av, cv, rfl⟩ := own_form ho3
  refine skip_ (w1 := w3.setCell ⟨go, 0, none⟩ (.slice Av (l.length + 1) cv)) (by rfl) rfl (by go_simp) ?_
  refine hK.out _ _ ?_
  clear hK K
  refine done_ (done_of HT_.out (by kernel_rfl)) ?_
  have hneg := own_ne ho3 hHeld.1 (by decide)
  go_wp2_with fail
  refine ⟨rfl, .tuple #[], results_none rfl _ _ _, rfl, _, hHeld.1.set 0 _, ?_, ?_, ?_⟩
  · have h1 := own_keep ho3 (w' := w3.setCell ⟨go, 0, none⟩ (.slice Av (l.length + 1) cv)) (fun g hg => heap_setCell_other w3 ⟨go, 0, none⟩ g _ (fun e => hneg (by rw [hg]; exact congrArg some e)))
    rw [show limRow (l ++ [⟨i, j, x⟩]) = limRow l ++ [.int .i64 (i : Int), .int .i64 (j : Int), .int .i32 x] by simp [limRow]]
    exact h1
  · exact Fr.set (Fr.then hN2 hgF (T := fun k => k = go ∨ v.ownBlock = some k) (fun _ _ e => e.elim) (fun _ _ e => .inr e)) (.inl (.inl rfl)) _
  · rcases hb3 with e | ⟨e, _⟩
    · exact .inl e
    · exact .inr ⟨_, e, hN2.size⟩
end Go.Proofs.Ytapfihlgemejiaa
