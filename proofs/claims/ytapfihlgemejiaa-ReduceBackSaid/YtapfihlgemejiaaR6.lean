/- reduce.round: the comparing closure. -/
import Derived.Test.YtapfihlgemejiaaR3
import Derived.Test.YtapfihlgemejiaaN20
namespace Go.Proofs.Ytapfihlgemejiaa
open Go.RowKit Go.Proofs.YtapfihlgemejiaaW.PrintLast
def r174T : Bool × List (List Nat × List Nat) := (true, [([], []), ([], []), ([0, 1], [0, 1]), ([], []), ([], []), ([3, 4, 2], [3, 4]), ([2, 5], [2, 5]), ([6, 5, 0, 1, 2, 3, 4, 5, 6], [6])])
def r174B : List Nat := [0, 0, 3, 0, 0, 31, 63, 127]
theorem r174Tab : rtab .any (opsOf Try.f174 1) = r174T := by kernel_rfl
theorem r174Bits : waitsOk r174T.2 r174B = true := by kernel_rfl
set_option maxRecDepth 100000 in
set_option maxHeartbeats 4000000 in
theorem cmpRank_any (b x y g g2 : Nat) (z : Zn) (w : World) (h : ZoneAt w b z) (hx : x ≤ z.n) (hy : y ≤ z.n) (hr : Row w g 196 [.pointer (some ⟨b, 0, none⟩)]) (hf : Row w g2 34 [.func (.func 172) #[] #[.pointer (some ⟨g, 0, none⟩)]]) :
    Calls Try.prog 174 #[.int .i64 x, .int .i64 y, .pointer (some ⟨g2, 0, none⟩)] w fun e w' => e = .returned (.int .i64 ((rankI z.Z x : Int) - rankI z.Z y)) ∧ New w w' := by
  have A1 := Lib.hid (fun W (hn : New w W) => rank_any b x g z W (h.new hn) hx (hn.row hr))
  have A2 := Lib.hid (fun W (hn : New w W) => rank_any b y g z W (h.new hn) hy (hn.row hr))
  have c0 : w.cell? ⟨g2, 0, none⟩ = some (.func (.func 172) #[] #[.pointer (some ⟨g, 0, none⟩)]) := hf.cell 0
  clear h hr
  go_enter Try.func174, Try.ntmps174
  go_wp2_with fail
  refine start_ (n := 8) (S := fun W => Row W g2 34 [.func (.func 172) #[] #[.pointer (some ⟨g, 0, none⟩)]] ∧ New w W) (ds := []) #[false, false, false, false, false, false, false, false] (by kernel_rfl) rfl rfl ⟨hf.drew, (New.refl w).drew⟩ (fun hHeld => ?_); refine with_tabW r174Tab r174Bits (fun HT_ HW_ => ?_)
  generalize w.drew = wd at hHeld ⊢
  refine take_ (i := 0) (N := some 6) (v := ?_) (a' := ?_) #[true, false, false, false, false, false, false, false] rfl rfl (take_ofW HT_.out HW_.out (by kernel_rfl)) (fun _ _ _ h => h) (Or.inl ⟨by rfl, ?_⟩) hHeld ?_ ?_
  rotate_left
  · intro w' hkt
    have s0 : w'.cell? ⟨g2, 0, none⟩ = some (.func (.func 172) #[] #[.pointer (some ⟨g, 0, none⟩)]) := hkt.1.cell 0
    go_simp
    with_reducible rfl
  rotate_left
  · simp only [Act.put, List.setIfInBounds_toArray, List.set_cons_zero, List.set_cons_succ]
    rfl
  refine pure_ (i := 1) (N := some 7) (v := ?_) (a' := ?_) #[true, true, false, false, false, false, false, false] rfl rfl (any_of HT_.out (by kernel_rfl)) (fun _ _ _ h => h) (Or.inl ⟨by rfl, ?_⟩) ?_ ?_
  rotate_left
  · intro w'
    go_simp
    with_reducible rfl
  rotate_left
  · simp only [Act.put, List.setIfInBounds_toArray, List.set_cons_zero, List.set_cons_succ]
    rfl
  refine pure_ (i := 4) (N := some 10) (v := ?_) (a' := ?_) #[true, true, false, false, true, false, false, false] rfl rfl (any_of HT_.out (by kernel_rfl)) (fun _ _ _ h => h) (Or.inl ⟨by rfl, ?_⟩) ?_ ?_
  rotate_left
  · intro w'
    go_simp
    with_reducible rfl
  rotate_left
  · simp only [Act.put, List.setIfInBounds_toArray, List.set_cons_zero, List.set_cons_succ]
    rfl
  refine take_ (i := 3) (N := some 9) (v := ?_) (a' := ?_) #[true, true, false, true, true, false, false, false] rfl rfl (take_ofW HT_.out HW_.out (by kernel_rfl)) (fun _ _ _ h => h) (Or.inl ⟨by rfl, ?_⟩) hHeld ?_ ?_
  rotate_left
  · intro w' hkt
    have s0 : w'.cell? ⟨g2, 0, none⟩ = some (.func (.func 172) #[] #[.pointer (some ⟨g, 0, none⟩)]) := hkt.1.cell 0
    go_simp
    with_reducible rfl
  rotate_left
  · simp only [Act.put, List.setIfInBounds_toArray, List.set_cons_zero, List.set_cons_succ]
    rfl
  refine one_ (i := 2) (N := some 8) #[true, true, true, true, true, false, false, false] rfl rfl (one_of HT_.out (by kernel_rfl)) (by decide) (fun K hK => ?_)
  refine call_ 172 #[.int .i64 x, .pointer (some ⟨g, 0, none⟩)] (by rfl) rfl (by
    have he := enters_ Try.func172 (by kernel_rfl) rfl #[.int .i64 x, .pointer (some ⟨g, 0, none⟩)]
    unfold execOp
    simp [resolve, Deferred.ofValue, invoke, Act.eval, he]) ?_
  refine (A1.out _ hHeld.2).mono ?_
  rintro e vx ⟨rfl, hnx⟩
  refine ⟨_, rfl, ?_⟩
  refine hK.out _ _ ⟨hnx.row hHeld.1, hHeld.2.trans hnx⟩ (fun hHeld => ?_)
  clear hK K
  refine norm_ (a' := ?_) ?_ ?_
  rotate_left
  · show Act.put _ (some 8) _ = _
    simp only [Act.put, List.setIfInBounds_toArray, List.set_cons_zero, List.set_cons_succ]
    rfl
  refine one_ (i := 5) (N := some 11) #[true, true, true, true, true, true, false, false] rfl rfl (one_of HT_.out (by kernel_rfl)) (by decide) (fun K hK => ?_)
  refine call_ 172 #[.int .i64 y, .pointer (some ⟨g, 0, none⟩)] (by rfl) rfl (by
    have he := enters_ Try.func172 (by kernel_rfl) rfl #[.int .i64 y, .pointer (some ⟨g, 0, none⟩)]
    unfold execOp
    simp [resolve, Deferred.ofValue, invoke, Act.eval, he]) ?_
  refine (A2.out _ hHeld.2).mono ?_
  rintro e vy ⟨rfl, hny⟩
  refine ⟨_, rfl, ?_⟩
  refine hK.out _ _ ⟨hny.row hHeld.1, hHeld.2.trans hny⟩ (fun hHeld => ?_)
  clear hK K
  refine norm_ (a' := ?_) ?_ ?_
  rotate_left
  · show Act.put _ (some 11) _ = _
    simp only [Act.put, List.setIfInBounds_toArray, List.set_cons_zero, List.set_cons_succ]
    rfl
  refine pure_ (i := 6) (N := some 12) (v := ?_) (a' := ?_) #[true, true, true, true, true, true, true, false] rfl rfl (any_of HT_.out (by kernel_rfl)) (fun _ _ _ h => h) (Or.inl ⟨by rfl, ?_⟩) ?_ ?_
  rotate_left
  · intro w'
    go_simp
    with_reducible rfl
  rotate_left
  · simp only [Act.put, List.setIfInBounds_toArray, List.set_cons_zero, List.set_cons_succ]
    rfl
  refine pure_ (i := 7) (N := some 5) (v := ?_) (a' := ?_) #[true, true, true, true, true, true, true, true] rfl rfl (any_of HT_.out (by kernel_rfl)) (fun _ _ _ h => h) (Or.inl ⟨by rfl, ?_⟩) ?_ ?_
  rotate_left
  · intro w'
    go_simp
    with_reducible rfl
  rotate_left
  · simp only [Act.put, List.setIfInBounds_toArray, List.set_cons_zero, List.set_cons_succ]
    rfl
  refine done_ (done_of HT_.out (by kernel_rfl)) ?_
  have rx : ∀ u, rankI z.Z u ≤ 2 := fun u => by unfold rankI; repeat (first | omega | split)
  have hx2 := rx x
  have hy2 := rx y
  rw [show IntKind.i64.wrap ((rankI z.Z x : Int) - rankI z.Z y) = (rankI z.Z x : Int) - rankI z.Z y by rw [IntKind.wrap_i64]; omega]
  go_wp2_with fail
  go_ret
  exact ⟨rfl, hHeld.2⟩
end Go.Proofs.Ytapfihlgemejiaa
