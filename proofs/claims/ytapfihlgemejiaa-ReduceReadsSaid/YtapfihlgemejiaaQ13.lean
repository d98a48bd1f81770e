/- gnomonref03.Four, gnomonref25.Pack, gnomonlaw25.sameLimits. -/
import Derived.Test.YtapfihlgemejiaaQ12
import Derived.Test.YtapfihlgemejiaaC1
import Derived.Test.YtapfihlgemejiaaS18
namespace Go.Proofs.Ytapfihlgemejiaa
open Go.RowKit Go.Proofs.YtapfihlgemejiaaW.PrintLast
def r73T : Bool × List (List Nat × List Nat) := (true, [([], []), ([], []), ([], []), ([1, 2], [1, 2]), ([3], [3]), ([4], [4]), ([5], [5]), ([], []), ([], []), ([7, 8], [7, 8]), ([9], [9]), ([10], [10]), ([6, 11], [6, 11]), ([12], [12]), ([13], [13]), ([0, 14], [0, 14]), ([15, 15, 0, 1, 2, 3, 4, 5, 6, 7, 8, 9, 10, 11, 12, 13, 14, 15], [0, 15])])
def r73B : List Nat := [0, 0, 0, 6, 14, 30, 62, 0, 0, 384, 896, 1920, 4094, 8190, 16382, 32767, 65535]
theorem r73Tab : rtab .any (opsOf Try.f73 8) = r73T := by kernel_rfl
theorem r73Bits : waitsOk r73T.2 r73B = true := by kernel_rfl
theorem rfew_all (b : Nat) (z : Zn) (w : World) (h : RefAt w b z) (hg : ZGood z) : Calls Try.prog 69 #[.pointer (some ⟨b, 0, none⟩)] w (FewPost z w) := by
  have hle := hg.le1
  obtain ⟨n, Z⟩ := z
  rcases hg with ⟨_, h0 | h0⟩
  · have h0 : Z = zeros := h0
    subst h0
    refine (rfew_empty b _ w h hle zeros_empty).mono ?_
    rintro e w' ⟨v, he, ho, hn⟩
    refine ⟨v, he, ?_, hn⟩
    unfold fewN
    rw [if_pos zeros_empty]
    exact ho
  · have h0 : ZCl n Z := h0
    refine (rfew_any b _ w h h0).mono ?_
    rintro e w' ⟨v, he, ho, hn⟩
    refine ⟨v, he, ?_, hn⟩
    unfold fewN
    rw [if_neg (by rw [h0.not_empty]; decide), List.length_map]
    exact ho
/-- A cell's four bytes. -/
def fourB (x : Int) : List Int := [(x + 2147483648) / 16777216, (x + 2147483648) / 65536 % 256, (x + 2147483648) / 256 % 256, (x + 2147483648) % 256]
set_option maxRecDepth 100000 in
set_option maxHeartbeats 1000000 in
theorem rfour_any (xb : Int) (w : World) (h0 : -536870912 ≤ xb) (h1 : xb ≤ 2147483647) :
    Calls Try.prog 153 #[.int .i32 xb] w fun e w' => e = .returned (.slice (some ⟨w.heap.size, 0, none⟩) 4 4) ∧ w' = w.alloc (.cells (ints8 (fourB xb)).toArray 5) := by
  obtain ⟨q, hq⟩ : ∃ q, IntKind.u32.wrap xb = q := ⟨_, rfl⟩
  have hqx := xor_top q
  have hq2 : (q + 2147483648) % 4294967296 = xb + 2147483648 := by rw [← hq, IntKind.wrap_u32]; omega
  rw [hq2] at hqx
  have hf : ints8 (fourB xb) = [.int .u8 ((xb + 2147483648) / 16777216), .int .u8 ((xb + 2147483648) / 65536 % 256), .int .u8 ((xb + 2147483648) / 256 % 256), .int .u8 ((xb + 2147483648) % 256)] := rfl
  rw [hf]
  obtain ⟨u, hu⟩ : ∃ u, xb + 2147483648 = u := ⟨_, rfl⟩
  rw [hu] at hqx ⊢
  have u0 : 0 ≤ u := by omega
  have u1 : u ≤ 4294967295 := by omega
  clear hq2 hu h0 h1 hf
  go_enter Try.func153, Try.ntmps153
  go_wp2_with fail
  go_ret
  exact ⟨rfl, rfl⟩
theorem packTo_step (z : Zn) {t : Nat} (h : t < (fewN z).length) : packTo z (t + 1) = (packTo z t ++ [16 * ((fewN z).getD t ⟨0, 0, 0⟩).i + ((fewN z).getD t ⟨0, 0, 0⟩).j]) ++ fourB ((fewN z).getD t ⟨0, 0, 0⟩).b := by
  rw [packTo_succ z h, List.append_assoc]; rfl
set_option maxRecDepth 100000 in
set_option maxHeartbeats 400000 in
theorem rpack_nil (w : World) : Calls Try.prog 73 #[.pointer none] w fun e w' => e = .returned (.tuple #[.slice none 0 0, .int .i64 1]) ∧ w = w' := by
  have F := Lib.hid (rfew_nil w)
  go_enter Try.func73, Try.ntmps73
  go_wp2_with fail
  refine F.out.mono ?_
  rintro e w' ⟨rfl, rfl⟩
  go_wp2_with fail
  go_ret2
  exact ⟨rfl, rfl⟩
set_option maxRecDepth 100000 in
set_option maxHeartbeats 8000000 in
theorem rpack_any (b : Nat) (z : Zn) (w : World) (h : RefAt w b z) (hg : ZGood z) : Calls Try.prog 73 #[.pointer (some ⟨b, 0, none⟩)] w (PackPost z w) := by
  obtain ⟨i0, hi0, hz0, hz1, hz2⟩ := info_parts infoOf5
  have F := Lib.hid (rfew_all b z w h hg)
  have DM := Lib.hid (fun W (hn : New w W) => rdim_any b z W (h.new hn))
  obtain ⟨hlen, hsm⟩ := fewN_small hg
  have hn8 := hg.1
  have HSM := Lib.hid hsm
  clear h hg hsm
  obtain ⟨m, hm⟩ : ∃ m, (fewN z).length = m := ⟨_, rfl⟩
  rw [hm] at hlen
  have HM := Lib.hid hm
  go_enter Try.func73, Try.ntmps73
  go_wp2_with fail
  refine F.out.mono ?_
  rintro e w1 ⟨v, rfl, ho, hn1⟩
  obtain ⟨A, c, hv⟩ := own_form ho
  rw [hm] at hv ho
  subst hv
  have HO := Lib.hid ho
  have N1 := Lib.hid hn1
  have HDM := Lib.hid (DM.out w1 hn1)
  clear ho hn1 F hm DM
  go_wp2_with fail
  refine HDM.out.mono ?_
  rintro e w' ⟨rfl, rfl⟩
  have e1 : (z.n : Int) % 256 = (z.n : Int) := by omega
  have e2 : (m : Int) % 256 = (m : Int) := by omega
  go_wp2_with fail
  go_loopw [6, 7] (fun vb ci wr => ∃ t : Nat, t ≤ m ∧ ci = .int .i64 t ∧ Hid (wr.ownsRow w1.heap.size 5 1 vb (2 + 5 * t) (ints8 (packTo z t))) ∧ Hid (New w1 wr))
    (fun _ ci _ => m - (intOf ci).toNat)
  case atStart =>
    refine ⟨0, Nat.zero_le _, by go_num, ?_, (New.refl w1).alloc _⟩
    have e : ints8 (packTo z 0) = [.int .u8 (z.n : Int), .int .u8 (m : Int)] := by
      have h1 := HM.out
      simp [packTo, ints8, h1]
    show World.ownsRow _ _ _ _ _ _ _
    rw [e]
    exact World.ownsRow_lit w1 #[.int .u8 (z.n : Int), .int .u8 (m : Int)] 2 (Nat.le_refl _) (by decide) (by simp)
  case round =>
    obtain ⟨t, ht, rfl, HB, HN⟩ := hrel
    by_cases htl : t < m
    · have htz : (t : Int) < m := by omega
      have hown := own_new HO.out HN.out
      have hxm : (fewN z).getD t ⟨0, 0, 0⟩ ∈ fewN z := by rw [List.getD_eq_getElem?_getD, List.getElem?_eq_getElem (by rw [HM.out]; exact htl)]; exact List.getElem_mem _
      obtain ⟨x1, x2, x3⟩ := HSM.out _ hxm
      have hsucc := packTo_step z (t := t) (by rw [HM.out]; exact htl)
      obtain ⟨bA, offA, hA, hbA, _⟩ := (elems_of_own hown).lims t (by rw [HM.out]; exact htl)
      subst hA
      have hcs : ∀ W : World, W.ownsRow w.heap.size 100 3 (.slice (some ⟨bA, offA, none⟩) m c) m (limRow (fewN z)) → W.cell? ⟨bA, offA + t * 3, none⟩ = some (.int .i64 ((fewN z).getD t ⟨0, 0, 0⟩).i) ∧ W.cell? ⟨bA, offA + t * 3 + 1, none⟩ = some (.int .i64 ((fewN z).getD t ⟨0, 0, 0⟩).j) ∧ W.cell? ⟨bA, offA + t * 3 + 2, none⟩ = some (.int .i32 ((fewN z).getD t ⟨0, 0, 0⟩).b) := fun W hW => by
        obtain ⟨b', o', hA', _, c0, c1, c2⟩ := (elems_of_own hW).lims t (by rw [HM.out]; exact htl)
        cases hA'
        exact ⟨c0, c1, c2⟩
      generalize (fewN z).getD t ⟨0, 0, 0⟩ = x at *
      obtain ⟨xi, xj, xb⟩ := x
      simp only at x1 x2 x3 hcs hsucc
      have HSU := Lib.hid hsucc
      have HOwr := Lib.hid hown
      have C0 := Lib.hid (fun W (hn : New wr W) => (hcs W (own_new hown hn)).1)
      have C1 := Lib.hid (fun W (hn : New wr W) => (hcs W (own_new hown hn)).2.1)
      have C2 := Lib.hid (fun W hW => (hcs W hW).2.2)
      obtain ⟨i0', i1'⟩ := x1
      obtain ⟨j0', j1'⟩ := x2
      obtain ⟨b0', b1'⟩ := x3
      have hij : (16 * xi + xj) % 256 = 16 * xi + xj := by omega
      have hwr1 : IntKind.i64.wrap (16 * xi) = 16 * xi := by rw [IntKind.wrap_i64]; omega
      have hwr2 : IntKind.i64.wrap (16 * xi + xj) = 16 * xi + xj := by rw [IntKind.wrap_i64]; omega
      have hwr3 : IntKind.u8.wrap (16 * xi + xj) = 16 * xi + xj := by rw [IntKind.wrap_u8]; omega
      have HSW := Lib.hid HN.out.size
      have FO := Lib.hid (fun W => rfour_any xb W b0' (by omega))
      have h8 : ((t : Int) * 3).toNat = t * 3 := by omega
      clear hown hxm hsucc hbA hcs
      go_wp2_with fail
      refine start_ (n := 17) (S := fun W => New wr W) (ds := [15]) #[false, false, false, false, false, false, false, false, false, false, false, false, false, false, false, false, false] (by kernel_rfl) rfl rfl (New.refl wr).drew (fun hHeld => ?_); refine with_tabW r73Tab r73Bits (fun HT_ HW_ => ?_)
      generalize wr.drew = wd at hHeld ⊢
      refine pure_ (i := 0) (N := some 29) (v := ?_) (a' := ?_) #[true, false, false, false, false, false, false, false, false, false, false, false, false, false, false, false, false] rfl rfl (any_of HT_.out (by kernel_rfl)) (fun _ _ _ h => h) (Or.inl ⟨by rfl, ?_⟩) ?_ ?_
      rotate_left
      · intro w'
        go_simp
        with_reducible rfl
      rotate_left
      · simp only [Act.put, List.setIfInBounds_toArray, List.set_cons_zero, List.set_cons_succ]
        rfl
      refine pure_ (i := 1) (N := some 30) (v := ?_) (a' := ?_) #[true, true, false, false, false, false, false, false, false, false, false, false, false, false, false, false, false] rfl rfl (any_of HT_.out (by kernel_rfl)) (fun _ _ _ h => h) (Or.inl ⟨by rfl, ?_⟩) ?_ ?_
      rotate_left
      · intro w'
        go_simp
        with_reducible rfl
      rotate_left
      · simp only [Act.put, List.setIfInBounds_toArray, List.set_cons_zero, List.set_cons_succ]
        rfl
      refine pure_ (i := 2) (N := some 31) (v := ?_) (a' := ?_) #[true, true, true, false, false, false, false, false, false, false, false, false, false, false, false, false, false] rfl rfl (any_of HT_.out (by kernel_rfl)) (fun _ _ _ h => h) (Or.inl ⟨by rfl, ?_⟩) ?_ ?_
      rotate_left
      · intro w'
        go_simp
        with_reducible rfl
      rotate_left
      · simp only [Act.put, List.setIfInBounds_toArray, List.set_cons_zero, List.set_cons_succ]
        rfl
      refine pure_ (i := 3) (N := some 32) (v := ?_) (a' := ?_) #[true, true, true, true, false, false, false, false, false, false, false, false, false, false, false, false, false] rfl rfl (any_of HT_.out (by kernel_rfl)) (fun _ _ _ h => h) (Or.inl ⟨by rfl, ?_⟩) ?_ ?_
      rotate_left
      · intro w'
        go_simp
        with_reducible rfl
      rotate_left
      · simp only [Act.put, List.setIfInBounds_toArray, List.set_cons_zero, List.set_cons_succ]
        rfl
      refine pure_ (i := 4) (N := some 33) (v := ?_) (a' := ?_) #[true, true, true, true, true, false, false, false, false, false, false, false, false, false, false, false, false] rfl rfl (any_of HT_.out (by kernel_rfl)) (fun _ _ _ h => h) (Or.inl ⟨by rfl, ?_⟩) ?_ ?_
      rotate_left
      · intro w'
        go_simp
        with_reducible rfl
      rotate_left
      · simp only [Act.put, List.setIfInBounds_toArray, List.set_cons_zero, List.set_cons_succ]
        rfl
      refine pure_ (i := 7) (N := some 36) (v := ?_) (a' := ?_) #[true, true, true, true, true, false, false, true, false, false, false, false, false, false, false, false, false] rfl rfl (any_of HT_.out (by kernel_rfl)) (fun _ _ _ h => h) (Or.inl ⟨by rfl, ?_⟩) ?_ ?_
      rotate_left
      · intro w'
        go_simp
        with_reducible rfl
      rotate_left
      · simp only [Act.put, List.setIfInBounds_toArray, List.set_cons_zero, List.set_cons_succ]
        rfl
      refine pure_ (i := 8) (N := some 37) (v := ?_) (a' := ?_) #[true, true, true, true, true, false, false, true, true, false, false, false, false, false, false, false, false] rfl rfl (any_of HT_.out (by kernel_rfl)) (fun _ _ _ h => h) (Or.inl ⟨by rfl, ?_⟩) ?_ ?_
      rotate_left
      · intro w'
        go_simp
        with_reducible rfl
      rotate_left
      · simp only [Act.put, List.setIfInBounds_toArray, List.set_cons_zero, List.set_cons_succ]
        rfl
      refine pure_ (i := 9) (N := some 38) (v := ?_) (a' := ?_) #[true, true, true, true, true, false, false, true, true, true, false, false, false, false, false, false, false] rfl rfl (any_of HT_.out (by kernel_rfl)) (fun _ _ _ h => h) (Or.inl ⟨by rfl, ?_⟩) ?_ ?_
      rotate_left
      · intro w'
        go_simp
        with_reducible rfl
      rotate_left
      · simp only [Act.put, List.setIfInBounds_toArray, List.set_cons_zero, List.set_cons_succ]
        rfl
      refine pure_ (i := 10) (N := some 39) (v := ?_) (a' := ?_) #[true, true, true, true, true, false, false, true, true, true, true, false, false, false, false, false, false] rfl rfl (any_of HT_.out (by kernel_rfl)) (fun _ _ _ h => h) (Or.inl ⟨by rfl, ?_⟩) ?_ ?_
      rotate_left
      · intro w'
        go_simp
        with_reducible rfl
      rotate_left
      · simp only [Act.put, List.setIfInBounds_toArray, List.set_cons_zero, List.set_cons_succ]
        rfl
      refine take_ (i := 5) (N := some 34) (v := ?_) (a' := ?_) #[true, true, true, true, true, true, false, true, true, true, true, false, false, false, false, false, false] rfl rfl (take_ofW HT_.out HW_.out (by kernel_rfl)) (fun _ _ _ h => h) (Or.inl ⟨by rfl, ?_⟩) hHeld ?_ ?_
      rotate_left
      · intro w' hkt
        have s0 := C0.out w' hkt
        have s1 := C1.out w' hkt
        go_simp
        with_reducible rfl
      rotate_left
      · simp only [Act.put, List.setIfInBounds_toArray, List.set_cons_zero, List.set_cons_succ]
        rfl
      refine pure_ (i := 6) (N := some 35) (v := ?_) (a' := ?_) #[true, true, true, true, true, true, true, true, true, true, true, false, false, false, false, false, false] rfl rfl (any_of HT_.out (by kernel_rfl)) (fun _ _ _ h => h) (Or.inl ⟨by rfl, ?_⟩) ?_ ?_
      rotate_left
      · intro w'
        go_simp
        with_reducible rfl
      rotate_left
      · simp only [Act.put, List.setIfInBounds_toArray, List.set_cons_zero, List.set_cons_succ]
        rfl
      refine take_ (i := 11) (N := some 40) (v := ?_) (a' := ?_) #[true, true, true, true, true, true, true, true, true, true, true, true, false, false, false, false, false] rfl rfl (take_ofW HT_.out HW_.out (by kernel_rfl)) (fun _ _ _ h => h) (Or.inl ⟨by rfl, ?_⟩) hHeld ?_ ?_
      rotate_left
      · intro w' hkt
        have s0 := C0.out w' hkt
        have s1 := C1.out w' hkt
        go_simp
        with_reducible rfl
      rotate_left
      · simp only [Act.put, List.setIfInBounds_toArray, List.set_cons_zero, List.set_cons_succ]
        rfl
      refine pure_ (i := 12) (N := some 41) (v := ?_) (a' := ?_) #[true, true, true, true, true, true, true, true, true, true, true, true, true, false, false, false, false] rfl rfl (any_of HT_.out (by kernel_rfl)) (fun _ _ _ h => h) (Or.inl ⟨by rfl, ?_⟩) ?_ ?_
      rotate_left
      · intro w'
        go_simp
        with_reducible rfl
      rotate_left
      · simp only [Act.put, List.setIfInBounds_toArray, List.set_cons_zero, List.set_cons_succ]
        rfl
      refine pure_ (i := 13) (N := some 42) (v := ?_) (a' := ?_) #[true, true, true, true, true, true, true, true, true, true, true, true, true, true, false, false, false] rfl rfl (any_of HT_.out (by kernel_rfl)) (fun _ _ _ h => h) (Or.inl ⟨by rfl, ?_⟩) ?_ ?_
      rotate_left
      · intro w'
        go_simp
        with_reducible rfl
      rotate_left
      · simp only [Act.put, List.setIfInBounds_toArray, List.set_cons_zero, List.set_cons_succ]
        rfl
      refine one_ (i := 14) (N := some 43) #[true, true, true, true, true, true, true, true, true, true, true, true, true, true, true, false, false] rfl rfl (one_of HT_.out (by kernel_rfl)) (by decide) (fun K hK => ?_)
      refine gives_ (v := .slice (some ⟨wd.heap.size, 0, none⟩) 1 1) (w1 := wd.alloc (.cells #[.int .u8 (16 * xi + xj)] 5)) (by rfl) rfl (by go_simp) ?_
      have hHeld0 := hHeld
      refine hK.out _ _ (hHeld0.alloc _) (fun hHeld => ?_)
      clear hK K
      refine norm_ (a' := ?_) ?_ ?_
      rotate_left
      · show Act.put _ (some 43) _ = _
        simp only [Act.put, List.setIfInBounds_toArray, List.set_cons_zero, List.set_cons_succ]
        rfl
      have hown := own_new HB.out hHeld
      have hel := elems_new wd 5 (.int .u8 (16 * xi + xj))
      have hsz := Nat.le_trans HSW.out hHeld.size
      obtain ⟨v', w3, hrun, ho3, hg3, hb3⟩ := run_append_elems2 (P := Try.prog) (wd.alloc (.cells #[.int .u8 (16 * xi + xj)] 5)) w1.heap.size 30 30 5 i0 (.int .u8 0) 1 1 Try.underlying30 hi0 hz0 hz1 hz2 rfl (by decide) _ (2 + 5 * t) _ hown _ _ 1 1 _ hel rfl (by intro y hy; simp at hy; subst hy; rfl) (by unfold maxLen; omega) (by omega) hsz
      obtain ⟨A8, c8, hv8⟩ := own_form ho3
      subst hv8
      have hN3 : New w1 w3 := Fr.then (HN.out.trans hHeld) (Fr.of_grown (S := fun k => Value.ownBlock _ = some k) hg3 (fun k hk _ => hk)) (fun _ _ e => e) (fun k hk e => by have := (own_row hown e).1; omega)
      have HO3 := Lib.hid ho3
      have HN3 := Lib.hid hN3
      have hk3 : KeptT (fun t => t ≠ 5) wr w3 := fun g cur ty ht hg' => by
        have hlt := (Array.getElem?_eq_some_iff.1 hg').1
        have h2 := hHeld.block g hlt (fun e => e)
        refine ((Fr.of_grown (S := fun k => Value.ownBlock _ = some k) hg3 (fun k hk _ => hk)).block g (Nat.lt_of_lt_of_le hlt hHeld.size) (fun e => ?_)).trans h2
        obtain ⟨_, cur2, h3⟩ := own_row HB.out e
        have := hg'.symm.trans h3
        simp only [Option.some.injEq, Obj.cells.injEq] at this
        exact ht this.2.1
      have hO3b := hk3.own HOwr.out (by decide)
      have HOW3 := Lib.hid hO3b
      clear hb3 hg3 hel hown hO3b hk3 hN3 ho3
      refine last_ (i := 15) (N := some 44) #[true, true, true, true, true, true, true, true, true, true, true, true, true, true, true, true, false] rfl rfl (one_of HT_.out (by kernel_rfl)) (by decide) (fun K hK => ?_)
      refine gives_ (v := .slice A8 (2 + 5 * t + 1) c8) (w1 := w3) (by rfl) rfl (exec_app rfl rfl rfl hrun) ?_
      refine hK.out _ _ ?_
      clear hK K
      refine norm_ (a' := ?_) ?_ ?_
      rotate_left
      · show Act.put _ (some 44) _ = _
        simp only [Act.put, List.setIfInBounds_toArray, List.set_cons_zero, List.set_cons_succ]
        rfl
      refine pure_ (i := 16) (N := some 6) (v := ?_) (a' := ?_) #[true, true, true, true, true, true, true, true, true, true, true, true, true, true, true, true, true] rfl rfl (any_of HT_.out (by kernel_rfl)) (fun _ _ _ h => h) (Or.inl ⟨by rfl, ?_⟩) ?_ ?_
      rotate_left
      · intro w'
        go_simp
        with_reducible rfl
      rotate_left
      · simp only [Act.put, List.setIfInBounds_toArray, List.set_cons_zero, List.set_cons_succ]
        rfl
      refine done_ (done_of HT_.out (by kernel_rfl)) ?_
      have c2 := C2.out w3 HOW3.out
      clear hrun hHeld hHeld0 hsz
      go_wp2_with fail
      refine (FO.out w3).mono ?_
      rintro e w4 ⟨rfl, rfl⟩
      have hN5 := (New.refl w3).alloc (.cells (ints8 (fourB xb)).toArray 5)
      have HOWN := Lib.hid (own_new HO3.out hN5)
      have HEL := Lib.hid (elems_news w3 5 (ints8 (fourB xb)))
      have HSZ := Lib.hid ((HN3.out.trans hN5).size)
      have HN5 := Lib.hid (HN3.out.trans hN5)
      clear hN5 c2
      go_wp2_with (at_builtin; (refine wpList_append_elems rfl _ _ 30 rfl w1.heap.size 5 i0 (.int .u8 0) 1 1 Try.underlying30 hi0 hz0 hz1 hz2 rfl (by decide) _ (2 + 5 * t + 1) _ (by rfl) HOWN.out _ _ 4 4 _ (by rfl) HEL.out rfl ?c1 ?c2 ?c3 HSZ.out ?_))
      case c1 => intro y hy; simp [ints8, fourB] at hy; rcases hy with rfl | rfl | rfl | rfl <;> rfl
      case c2 => unfold maxLen; omega
      case c3 => omega
      intro v' w' ho' hg' hb'
      have hF := Fr.of_grown (S := fun k => Value.ownBlock _ = some k) hg' (fun k hk _ => hk)
      have hN6 : New w1 w' := Fr.then HN5.out hF (fun _ _ e => e) (fun k hk e => by
        have h1 := (own_row HOWN.out e).1
        omega)
      have HO' := Lib.hid ho'
      clear ho' hg' hb' hF
      go_wp2_with fail
      refine ⟨⟨t + 1, by omega, by go_num, ?_, hN6⟩, by simp [intOf] <;> omega⟩
      show World.ownsRow _ _ _ _ _ _ _
      rw [HSU.out, ints8_append, ints8_append, List.append_assoc, show 2 + 5 * (t + 1) = 2 + 5 * t + 1 + 4 by omega]
      exact HO'.out
    · have htz : ¬ (t : Int) < m := by omega
      have hte : t = m := by omega
      have h1 := HB.out
      rw [hte] at h1
      have HB2 := Lib.hid h1
      obtain ⟨Ab, cb, hvb⟩ := own_form h1
      subst hvb
      clear h1 hte
      go_wp2_with fail
      go_ret2
      refine ⟨_, rfl, ?_, N1.out.trans HN.out⟩
      have hl := packTo_length z m (by rw [HM.out]; exact Nat.le_refl _)
      have e : packB z = packTo z m := by unfold packB; rw [HM.out]
      rw [e, hl]
      exact own_lower HB2.out N1.out.size
end Go.Proofs.Ytapfihlgemejiaa
