/- rat: Compare, Of. -/
import Derived.Test.YtapfihlgemejiaaN20
import Derived.Test.YtapfihlgemejiaaN11
import Derived.Test.YtapfihlgemejiaaWTab
namespace Go.Proofs.Ytapfihlgemejiaa
open Go.RowKit Go.Proofs.YtapfihlgemejiaaW.PrintLast

/-- Two fractions in their blocks, over calls that turn nothing old. -/
def Kp (w : World) (g1 g2 : Nat) (a b c d : Int) (W : World) : Prop := Row W g1 75 [.int .i64 a, .int .i64 b] ∧ Row W g2 75 [.int .i64 c, .int .i64 d] ∧ New w W
theorem Kp.cells {w W : World} {g1 g2 : Nat} {a b c d : Int} (h : Kp w g1 g2 a b c d W) : W.cell? ⟨g1, 0, none⟩ = some (.int .i64 a) ∧ W.cell? ⟨g1, 1, none⟩ = some (.int .i64 b) ∧ W.cell? ⟨g2, 0, none⟩ = some (.int .i64 c) ∧ W.cell? ⟨g2, 1, none⟩ = some (.int .i64 d) ∧ Kp w g1 g2 a b c d W := ⟨h.1.cell 0, h.1.cell 1, h.2.1.cell 0, h.2.1.cell 1, h⟩
theorem Kp.drew {w W : World} {g1 g2 : Nat} {a b c d : Int} (h : Kp w g1 g2 a b c d W) : Kp w g1 g2 a b c d W.drew := ⟨h.1.drew, h.2.1.drew, h.2.2.drew⟩
theorem Kp.alloc {w W : World} {g1 g2 : Nat} {a b c d : Int} (h : Kp w g1 g2 a b c d W) (o : Obj) : Kp w g1 g2 a b c d (W.alloc o) := ⟨h.1.alloc o, h.2.1.alloc o, h.2.2.alloc o⟩
theorem Kp.new {w W W' : World} {g1 g2 : Nat} {a b c d : Int} (h : Kp w g1 g2 a b c d W) (hn : New W W') : Kp w g1 g2 a b c d W' := ⟨hn.row h.1, hn.row h.2.1, h.2.2.trans hn⟩
theorem kp_wide {f : FuncId} {args : Array Value} {w W : World} {g1 g2 : Nat} {a b c d n : Int} (hc : Calls Try.prog f args W (WRes n W)) (hk : Kp w g1 g2 a b c d W) :
    Calls Try.prog f args W fun e w' => ∃ h l s, IsW h l s n ∧ e = .returned (.agg #[.int .u64 (h : Int), .int .u64 (l : Int), .bool s]) ∧ Kp w g1 g2 a b c d w' :=
  hc.mono fun _ _ ⟨h, l, s, hw, he, hn⟩ => ⟨h, l, s, hw, he, hk.new hn⟩
/-- The same, with a block that was made for the result. -/
def Kz (w : World) (g1 g2 : Nat) (a b c d : Int) (z : Nat) (W : World) : Prop := Kp w g1 g2 a b c d W ∧ Row W z 161 (wideRow2 0 0 false) ∧ g1 < z ∧ g2 < z ∧ w.heap.size ≤ z
theorem Kz.of_alloc {w W : World} {g1 g2 : Nat} {a b c d : Int} (hk : Kp w g1 g2 a b c d W) : Kz w g1 g2 a b c d W.heap.size (W.alloc (.cells #[.int .u64 0, .int .u64 0, .bool false] 161)) :=
  ⟨hk.alloc _, Row.new_at W 161 (wideRow2 0 0 false) rfl, hk.1.lt, hk.2.1.lt, hk.2.2.size⟩
theorem kz_wide {f : FuncId} {args : Array Value} {w W : World} {g1 g2 z : Nat} {a b c d n : Int} (hc : Calls Try.prog f args W (WRes n W)) (hk : Kz w g1 g2 a b c d z W) :
    Calls Try.prog f args W fun e w' => ∃ h l s, IsW h l s n ∧ e = .returned (.agg #[.int .u64 (h : Int), .int .u64 (l : Int), .bool s]) ∧ Kz w g1 g2 a b c d z w' :=
  hc.mono fun _ _ ⟨h, l, s, hw, he, hn⟩ => ⟨h, l, s, hw, he, hk.1.new hn, hn.row hk.2.1, hk.2.2⟩
def cmpT : Bool × List (List Nat × List Nat) := (true, [([], []), ([0], [0]), ([], []), ([2], [2]), ([1, 3], [1, 3]), ([], []), ([5], [5]), ([], []), ([7], [7]), ([6, 8, 4], [6, 8]), ([9, 9], [9]), ([4, 10, 10], [4, 10]), ([], []), ([12, 11, 11, 0, 1, 2, 3, 4, 5, 6, 7, 8, 9, 10, 11, 12], [11, 12])])
def cmpB : List Nat := [0, 1, 0, 4, 15, 0, 32, 0, 128, 511, 1023, 2047, 0, 8191]
theorem cmpTab : rtab .any (opsOf Try.f43 3) = cmpT := by kernel_rfl
theorem cmpBits : waitsOk cmpT.2 cmpB = true := by kernel_rfl
theorem Kz.set3 {w W : World} {g1 g2 z : Nat} {a b c d : Int} (h : Kz w g1 g2 a b c d z W) (i j k : Nat) (u v x : Value) :
    Kp w g1 g2 a b c d (((W.setCell ⟨z, i, none⟩ u).setCell ⟨z, j, none⟩ v).setCell ⟨z, k, none⟩ x) :=
  ⟨h.1.1.far3 z (by have := h.2.2.1; omega) i j k u v x, h.1.2.1.far3 z (by have := h.2.2.2.1; omega) i j k u v x, new_set3 h.1.2.2 z h.2.2.2.2 i j k u v x⟩
theorem of_rat (n : Int) (w : World) : Calls Try.prog 44 #[.int .i64 n] w fun e w' => e = .returned (.agg #[.int .i64 n, .int .i64 1]) ∧ New w w' := by
  go_enter Try.func44, Try.ntmps44
  go_wp2_with fail
  simp [bodyPost, results, Try.results44, go_sem]
  exact (New.refl w).alloc _
def sgn (n : Int) : Int := if n = 0 then 0 else if n < 0 then -1 else 1
def cmpR (a b c d : Int) : Int := if rightR a b && rightR c d then sgn (a * d - c * b) else 0
set_option maxHeartbeats 400000 in
theorem compare_no (a b c d : Int) (ha : In64 a) (hb : In64 b) (hc : In64 c) (hd : In64 d) (h : (rightR a b && rightR c d) = false) (w : World) :
    Calls Try.prog 43 #[.agg #[.int .i64 a, .int .i64 b], .agg #[.int .i64 c, .int .i64 d]] w fun e w' => e = .returned (.int .i64 0) ∧ New w w' := by
  have BO := Lib.hid (fun W => both_any a b c d ha hb hc hd W)
  rw [h] at BO
  clear h ha hb hc hd
  go_enter Try.func43, Try.ntmps43
  go_wp2_with fail
  refine (BO.out _).mono ?_
  rintro e w1 ⟨rfl, hn⟩
  go_wp2_with fail
  go_ret
  exact ⟨rfl, (((New.refl w).alloc _).alloc _).trans hn⟩
theorem rightR_pos {p q : Int} (h : rightR p q = true) : 1 ≤ q ∧ Nat.gcd p.natAbs q.natAbs = 1 := of_decide_eq_true h
set_option maxRecDepth 100000 in
set_option maxHeartbeats 4000000 in
theorem compare_yes (a b c d : Int) (ha : In64 a) (hb : In64 b) (hc : In64 c) (hd : In64 d) (h : (rightR a b && rightR c d) = true) (w : World) :
    Calls Try.prog 43 #[.agg #[.int .i64 a, .int .i64 b], .agg #[.int .i64 c, .int .i64 d]] w fun e w' => e = .returned (.int .i64 (sgn (a * d - c * b))) ∧ New w w' := by
  have BO := Lib.hid (fun W => both_any a b c d ha hb hc hd W)
  rw [h] at BO
  have T1 := Lib.hid (fun W => times_any a d ha hd W)
  have T2 := Lib.hid (fun W => times_any c b hc hb W)
  have BD := Lib.hid (And.intro (show (a * d).natAbs ≤ 9223372036854775808 * 9223372036854775808 by rw [Int.natAbs_mul]; exact Nat.mul_le_mul ha.abs hd.abs) (show (c * b).natAbs ≤ 9223372036854775808 * 9223372036854775808 by rw [Int.natAbs_mul]; exact Nat.mul_le_mul hc.abs hb.abs))
  clear h ha hb hc hd
  go_enter Try.func43, Try.ntmps43
  go_wp2_with fail
  refine (BO.out _).mono ?_
  rintro e w1 ⟨rfl, hn⟩
  have hk : Kp w w.heap.size (w.heap.size + 1) a b c d w1 :=
    ⟨hn.row ((Row.new_at w 75 [.int .i64 a, .int .i64 b] rfl).alloc _), hn.row (Row.new_at (w.alloc (.cells #[.int .i64 a, .int .i64 b] 75)) 75 [.int .i64 c, .int .i64 d] (by simp)), (((New.refl w).alloc _).alloc _).trans hn⟩
  obtain ⟨c0, c1, c2, c3, hk⟩ := hk.cells
  have K1 := Lib.hid (fun W (hk : Kp w w.heap.size (w.heap.size + 1) a b c d W) => kp_wide (T1.out W) hk)
  have K2 := Lib.hid (fun W (hk : Kp w w.heap.size (w.heap.size + 1) a b c d W) => kp_wide (T2.out W) hk)
  have K3 := Lib.hid (fun W h l s (hw : IsW h l s (c * b)) (hk : Kp w w.heap.size (w.heap.size + 1) a b c d W) => kp_wide (opposite_any h l s _ hw W) hk)
  have K4 := Lib.hid (fun W h l s h' l' s' (hw : IsW h l s (a * d)) (hw' : IsW h' l' s' (-(c * b))) (hk : Kp w w.heap.size (w.heap.size + 1) a b c d W) =>
    kp_wide (wsum_any h l h' l' s s' _ _ hw hw' (by have := BD.out; rw [hw.2.2.1, hw'.2.2.1]; omega) W) hk)
  have Z1 := Lib.hid (fun W z (hk : Kz w w.heap.size (w.heap.size + 1) a b c d z W) => kz_wide (T1.out W) hk)
  have Z2 := Lib.hid (fun W z (hk : Kz w w.heap.size (w.heap.size + 1) a b c d z W) => kz_wide (T2.out W) hk)
  have Z3 := Lib.hid (fun W z h l s (hw : IsW h l s (c * b)) (hk : Kz w w.heap.size (w.heap.size + 1) a b c d z W) => kz_wide (opposite_any h l s _ hw W) hk)
  have Z4 := Lib.hid (fun W z h l s h' l' s' (hw : IsW h l s (a * d)) (hw' : IsW h' l' s' (-(c * b))) (hk : Kz w w.heap.size (w.heap.size + 1) a b c d z W) =>
    kz_wide (wsum_any h l h' l' s s' _ _ hw hw' (by have := BD.out; rw [hw.2.2.1, hw'.2.2.1]; omega) W) hk)
  clear hn BO
  go_wp2_with fail
  go_cut [5] (fun c5 w2 => ∃ z h l s, c5 = .pointer (some ⟨z, 0, none⟩) ∧ IsW h l s (a * d + -(c * b)) ∧ Row w2 z 161 (wideRow2 h l s) ∧ New w w2)
  case first =>
    clear c0 c1 c2 c3
    refine start_ (n := 14) (S := Kp w w.heap.size (w.heap.size + 1) a b c d) (ds := []) #[false, false, false, false, false, false, false, false, false, false, false, false, false, false] (by kernel_rfl) rfl rfl hk.drew (fun hHeld => ?_); refine with_tabW cmpTab cmpBits (fun HT_ HW_ => ?_)
    clear hk
    generalize w1.drew = w2 at hHeld ⊢
    refine pure_ (i := 0) (N := some 10) (v := ?_) (a' := ?_) #[true, false, false, false, false, false, false, false, false, false, false, false, false, false] rfl rfl (any_of HT_.out (by kernel_rfl)) (fun _ _ _ h => h) (Or.inl ⟨by rfl, ?_⟩) ?_ ?_
    rotate_left
    · intro w'
      go_simp
      with_reducible rfl
    rotate_left
    · simp only [Act.put, List.setIfInBounds_toArray, List.set_cons_zero, List.set_cons_succ]
      rfl
    refine pure_ (i := 2) (N := some 12) (v := ?_) (a' := ?_) #[true, false, true, false, false, false, false, false, false, false, false, false, false, false] rfl rfl (any_of HT_.out (by kernel_rfl)) (fun _ _ _ h => h) (Or.inl ⟨by rfl, ?_⟩) ?_ ?_
    rotate_left
    · intro w'
      go_simp
      with_reducible rfl
    rotate_left
    · simp only [Act.put, List.setIfInBounds_toArray, List.set_cons_zero, List.set_cons_succ]
      rfl
    refine pure_ (i := 5) (N := some 15) (v := ?_) (a' := ?_) #[true, false, true, false, false, true, false, false, false, false, false, false, false, false] rfl rfl (any_of HT_.out (by kernel_rfl)) (fun _ _ _ h => h) (Or.inl ⟨by rfl, ?_⟩) ?_ ?_
    rotate_left
    · intro w'
      go_simp
      with_reducible rfl
    rotate_left
    · simp only [Act.put, List.setIfInBounds_toArray, List.set_cons_zero, List.set_cons_succ]
      rfl
    refine pure_ (i := 7) (N := some 17) (v := ?_) (a' := ?_) #[true, false, true, false, false, true, false, true, false, false, false, false, false, false] rfl rfl (any_of HT_.out (by kernel_rfl)) (fun _ _ _ h => h) (Or.inl ⟨by rfl, ?_⟩) ?_ ?_
    rotate_left
    · intro w'
      go_simp
      with_reducible rfl
    rotate_left
    · simp only [Act.put, List.setIfInBounds_toArray, List.set_cons_zero, List.set_cons_succ]
      rfl
    refine take_ (i := 1) (N := some 11) (v := ?_) (a' := ?_) #[true, true, true, false, false, true, false, true, false, false, false, false, false, false] rfl rfl (take_ofW HT_.out HW_.out (by kernel_rfl)) (fun _ _ _ h => h) (Or.inl ⟨by rfl, ?_⟩) hHeld ?_ ?_
    rotate_left
    · intro w' hkt
      obtain ⟨s0, s1, s2, s3, -⟩ := hkt.cells
      go_simp
      with_reducible rfl
    rotate_left
    · simp only [Act.put, List.setIfInBounds_toArray, List.set_cons_zero, List.set_cons_succ]
      rfl
    refine take_ (i := 3) (N := some 13) (v := ?_) (a' := ?_) #[true, true, true, true, false, true, false, true, false, false, false, false, false, false] rfl rfl (take_ofW HT_.out HW_.out (by kernel_rfl)) (fun _ _ _ h => h) (Or.inl ⟨by rfl, ?_⟩) hHeld ?_ ?_
    rotate_left
    · intro w' hkt
      obtain ⟨s0, s1, s2, s3, -⟩ := hkt.cells
      go_simp
      with_reducible rfl
    rotate_left
    · simp only [Act.put, List.setIfInBounds_toArray, List.set_cons_zero, List.set_cons_succ]
      rfl
    refine take_ (i := 6) (N := some 16) (v := ?_) (a' := ?_) #[true, true, true, true, false, true, true, true, false, false, false, false, false, false] rfl rfl (take_ofW HT_.out HW_.out (by kernel_rfl)) (fun _ _ _ h => h) (Or.inl ⟨by rfl, ?_⟩) hHeld ?_ ?_
    rotate_left
    · intro w' hkt
      obtain ⟨s0, s1, s2, s3, -⟩ := hkt.cells
      go_simp
      with_reducible rfl
    rotate_left
    · simp only [Act.put, List.setIfInBounds_toArray, List.set_cons_zero, List.set_cons_succ]
      rfl
    refine take_ (i := 8) (N := some 18) (v := ?_) (a' := ?_) #[true, true, true, true, false, true, true, true, true, false, false, false, false, false] rfl rfl (take_ofW HT_.out HW_.out (by kernel_rfl)) (fun _ _ _ h => h) (Or.inl ⟨by rfl, ?_⟩) hHeld ?_ ?_
    rotate_left
    · intro w' hkt
      obtain ⟨s0, s1, s2, s3, -⟩ := hkt.cells
      go_simp
      with_reducible rfl
    rotate_left
    · simp only [Act.put, List.setIfInBounds_toArray, List.set_cons_zero, List.set_cons_succ]
      rfl
    refine two_ (i := 4) (j := 12) (Ni := some 14) (Nj := some 5) #[true, true, true, true, true, true, true, true, true, false, false, false, false, false] #[true, true, true, true, false, true, true, true, true, false, false, false, true, false] rfl rfl rfl rfl (two_of HT_.out (by kernel_rfl)) (by decide) (by decide) (fun K hK => ?_) (fun K hK => ?_)
    · refine goes_ Try.func109 (by kernel_rfl) rfl #[.int .i64 a, .int .i64 d] (by rfl) rfl rfl (by (try simp only [List.map_toArray, List.map_cons, List.map_nil]); first | done | rfl) ?_
      refine (K1.out _ hHeld).mono ?_
      rintro e v1 ⟨h1, l1, s1, hw1, rfl, hkn⟩
      refine ⟨_, rfl, ?_⟩
      refine hK.out _ _ hkn (fun hHeld => ?_)
      clear hK K
      refine norm_ (a' := ?_) ?_ ?_
      rotate_left
      · show Act.put _ (some 14) _ = _
        simp only [Act.put, List.setIfInBounds_toArray, List.set_cons_zero, List.set_cons_succ]
        rfl
      refine two_ (i := 9) (j := 12) (Ni := some 19) (Nj := some 5) #[true, true, true, true, true, true, true, true, true, true, false, false, false, false] #[true, true, true, true, true, true, true, true, true, false, false, false, true, false] rfl rfl rfl rfl (two_of HT_.out (by kernel_rfl)) (by decide) (by decide) (fun K hK => ?_) (fun K hK => ?_)
      · refine goes_ Try.func109 (by kernel_rfl) rfl #[.int .i64 c, .int .i64 b] (by rfl) rfl rfl (by (try simp only [List.map_toArray, List.map_cons, List.map_nil]); first | done | rfl) ?_
        refine (K2.out _ hHeld).mono ?_
        rintro e v2 ⟨h2, l2, s2, hw2, rfl, hkn⟩
        refine ⟨_, rfl, ?_⟩
        refine hK.out _ _ hkn (fun hHeld => ?_)
        clear hK K
        refine norm_ (a' := ?_) ?_ ?_
        rotate_left
        · show Act.put _ (some 19) _ = _
          simp only [Act.put, List.setIfInBounds_toArray, List.set_cons_zero, List.set_cons_succ]
          rfl
        refine two_ (i := 10) (j := 12) (Ni := some 20) (Nj := some 5) #[true, true, true, true, true, true, true, true, true, true, true, false, false, false] #[true, true, true, true, true, true, true, true, true, true, false, false, true, false] rfl rfl rfl rfl (two_of HT_.out (by kernel_rfl)) (by decide) (by decide) (fun K hK => ?_) (fun K hK => ?_)
        · refine goes_ Try.func111 (by kernel_rfl) rfl #[.agg #[.int .u64 (h2 : Int), .int .u64 (l2 : Int), .bool s2]] (by rfl) rfl rfl (by (try simp only [List.map_toArray, List.map_cons, List.map_nil]); first | done | rfl) ?_
          refine (K3.out _ _ _ _ hw2 hHeld).mono ?_
          rintro e v3 ⟨h3, l3, s3, hw3, rfl, hkn⟩
          refine ⟨_, rfl, ?_⟩
          refine hK.out _ _ hkn (fun hHeld => ?_)
          clear hK K
          refine norm_ (a' := ?_) ?_ ?_
          rotate_left
          · show Act.put _ (some 20) _ = _
            simp only [Act.put, List.setIfInBounds_toArray, List.set_cons_zero, List.set_cons_succ]
            rfl
          refine two_ (i := 11) (j := 12) (Ni := some 21) (Nj := some 5) #[true, true, true, true, true, true, true, true, true, true, true, true, false, false] #[true, true, true, true, true, true, true, true, true, true, true, false, true, false] rfl rfl rfl rfl (two_of HT_.out (by kernel_rfl)) (by decide) (by decide) (fun K hK => ?_) (fun K hK => ?_)
          · refine goes_ Try.func110 (by kernel_rfl) rfl #[.agg #[.int .u64 (h1 : Int), .int .u64 (l1 : Int), .bool s1], .agg #[.int .u64 (h3 : Int), .int .u64 (l3 : Int), .bool s3]] (by rfl) rfl rfl (by (try simp only [List.map_toArray, List.map_cons, List.map_nil]); first | done | rfl) ?_
            refine (K4.out _ _ _ _ _ _ _ hw1 hw3 hHeld).mono ?_
            rintro e v4 ⟨h4, l4, s4, hw4, rfl, hkn⟩
            refine ⟨_, rfl, ?_⟩
            refine hK.out _ _ hkn (fun hHeld => ?_)
            clear hK K
            refine norm_ (a' := ?_) ?_ ?_
            rotate_left
            · show Act.put _ (some 21) _ = _
              simp only [Act.put, List.setIfInBounds_toArray, List.set_cons_zero, List.set_cons_succ]
              rfl
            refine one_ (i := 12) (N := some 5) #[true, true, true, true, true, true, true, true, true, true, true, true, true, false] rfl rfl (one_of HT_.out (by kernel_rfl)) (by decide) (fun K hK => ?_)
            refine gives_ (v := .pointer (some ⟨v4.heap.size, 0, none⟩)) (w1 := v4.alloc (.cells #[.int .u64 0, .int .u64 0, .bool false] 161)) (by rfl) rfl (by go_simp) ?_
            have hZ := Kz.of_alloc hHeld
            refine hK.out _ _ hZ.1 (fun hHeld => ?_)
            generalize v4.heap.size = z at hZ ⊢
            generalize v4.alloc (.cells #[.int .u64 0, .int .u64 0, .bool false] 161) = va at hZ hHeld ⊢
            clear hK K
            refine norm_ (a' := ?_) ?_ ?_
            rotate_left
            · show Act.put _ (some 5) _ = _
              simp only [Act.put, List.setIfInBounds_toArray, List.set_cons_zero, List.set_cons_succ]
              rfl
            refine one_ (i := 13) (N := none) #[true, true, true, true, true, true, true, true, true, true, true, true, true, true] rfl rfl (one_of HT_.out (by kernel_rfl)) (by decide) (fun K hK => ?_)
            have y0 : va.cell? ⟨z, 0, none⟩ = some (.int .u64 0) := hZ.2.1.cell 0
            have y1 : va.cell? ⟨z, 1, none⟩ = some (.int .u64 0) := hZ.2.1.cell 1
            have y2 : va.cell? ⟨z, 2, none⟩ = some (.bool false) := hZ.2.1.cell 2
            have z0 := hZ.2.1.free 0
            have z1 := hZ.2.1.free 1
            have z2 := hZ.2.1.free 2
            refine skip_ (w1 := ((va.setCell ⟨z, 0, none⟩ (.int .u64 (h4 : Int))).setCell ⟨z, 1, none⟩ (.int .u64 (l4 : Int))).setCell ⟨z, 2, none⟩ (.bool s4)) (by rfl) rfl (by go_simp) ?_
            refine hK.out _ _ (hZ.set3 0 1 2 _ _ _) (fun hHeld => ?_)
            clear hK K
            refine done_ (done_of HT_.out (by kernel_rfl)) ?_
            go_wp2
            go_meet
            case rel => exact ⟨z, h4, l4, s4, rfl, hw4, ((hZ.2.1.set 0 (.int .u64 (h4 : Int))).set 1 (.int .u64 (l4 : Int))).set 2 (.bool s4), hHeld.2.2⟩
          · refine gives_ (v := .pointer (some ⟨v3.heap.size, 0, none⟩)) (w1 := v3.alloc (.cells #[.int .u64 0, .int .u64 0, .bool false] 161)) (by rfl) rfl (by go_simp) ?_
            have hZ := Kz.of_alloc hHeld
            refine hK.out _ _ hZ.1 (fun hHeld => ?_)
            generalize v3.heap.size = z at hZ ⊢
            generalize v3.alloc (.cells #[.int .u64 0, .int .u64 0, .bool false] 161) = va at hZ hHeld ⊢
            clear hK K
            refine norm_ (a' := ?_) ?_ ?_
            rotate_left
            · show Act.put _ (some 5) _ = _
              simp only [Act.put, List.setIfInBounds_toArray, List.set_cons_zero, List.set_cons_succ]
              rfl
            refine one_ (i := 11) (N := some 21) #[true, true, true, true, true, true, true, true, true, true, true, true, true, false] rfl rfl (one_of HT_.out (by kernel_rfl)) (by decide) (fun K hK => ?_)
            refine goes_ Try.func110 (by kernel_rfl) rfl #[.agg #[.int .u64 (h1 : Int), .int .u64 (l1 : Int), .bool s1], .agg #[.int .u64 (h3 : Int), .int .u64 (l3 : Int), .bool s3]] (by rfl) rfl rfl (by (try simp only [List.map_toArray, List.map_cons, List.map_nil]); first | done | rfl) ?_
            refine (Z4.out _ _ _ _ _ _ _ _ hw1 hw3 hZ).mono ?_
            rintro e v4z ⟨h4, l4, s4, hw4, rfl, hZn⟩
            refine ⟨_, rfl, ?_⟩
            refine hK.out _ _ hZn.1 (fun hHeld => ?_)
            clear hZ
            have hZ := hZn
            clear hZn
            clear hK K
            refine norm_ (a' := ?_) ?_ ?_
            rotate_left
            · show Act.put _ (some 21) _ = _
              simp only [Act.put, List.setIfInBounds_toArray, List.set_cons_zero, List.set_cons_succ]
              rfl
            refine one_ (i := 13) (N := none) #[true, true, true, true, true, true, true, true, true, true, true, true, true, true] rfl rfl (one_of HT_.out (by kernel_rfl)) (by decide) (fun K hK => ?_)
            have y0 : v4z.cell? ⟨z, 0, none⟩ = some (.int .u64 0) := hZ.2.1.cell 0
            have y1 : v4z.cell? ⟨z, 1, none⟩ = some (.int .u64 0) := hZ.2.1.cell 1
            have y2 : v4z.cell? ⟨z, 2, none⟩ = some (.bool false) := hZ.2.1.cell 2
            have z0 := hZ.2.1.free 0
            have z1 := hZ.2.1.free 1
            have z2 := hZ.2.1.free 2
            refine skip_ (w1 := ((v4z.setCell ⟨z, 0, none⟩ (.int .u64 (h4 : Int))).setCell ⟨z, 1, none⟩ (.int .u64 (l4 : Int))).setCell ⟨z, 2, none⟩ (.bool s4)) (by rfl) rfl (by go_simp) ?_
            refine hK.out _ _ (hZ.set3 0 1 2 _ _ _) (fun hHeld => ?_)
            clear hK K
            refine done_ (done_of HT_.out (by kernel_rfl)) ?_
            go_wp2
            go_meet
            case rel => exact ⟨z, h4, l4, s4, rfl, hw4, ((hZ.2.1.set 0 (.int .u64 (h4 : Int))).set 1 (.int .u64 (l4 : Int))).set 2 (.bool s4), hHeld.2.2⟩
        · refine gives_ (v := .pointer (some ⟨v2.heap.size, 0, none⟩)) (w1 := v2.alloc (.cells #[.int .u64 0, .int .u64 0, .bool false] 161)) (by rfl) rfl (by go_simp) ?_
          have hZ := Kz.of_alloc hHeld
          refine hK.out _ _ hZ.1 (fun hHeld => ?_)
          generalize v2.heap.size = z at hZ ⊢
          generalize v2.alloc (.cells #[.int .u64 0, .int .u64 0, .bool false] 161) = va at hZ hHeld ⊢
          clear hK K
          refine norm_ (a' := ?_) ?_ ?_
          rotate_left
          · show Act.put _ (some 5) _ = _
            simp only [Act.put, List.setIfInBounds_toArray, List.set_cons_zero, List.set_cons_succ]
            rfl
          refine one_ (i := 10) (N := some 20) #[true, true, true, true, true, true, true, true, true, true, true, false, true, false] rfl rfl (one_of HT_.out (by kernel_rfl)) (by decide) (fun K hK => ?_)
          refine goes_ Try.func111 (by kernel_rfl) rfl #[.agg #[.int .u64 (h2 : Int), .int .u64 (l2 : Int), .bool s2]] (by rfl) rfl rfl (by (try simp only [List.map_toArray, List.map_cons, List.map_nil]); first | done | rfl) ?_
          refine (Z3.out _ _ _ _ _ hw2 hZ).mono ?_
          rintro e v3z ⟨h3, l3, s3, hw3, rfl, hZn⟩
          refine ⟨_, rfl, ?_⟩
          refine hK.out _ _ hZn.1 (fun hHeld => ?_)
          clear hZ
          have hZ := hZn
          clear hZn
          clear hK K
          refine norm_ (a' := ?_) ?_ ?_
          rotate_left
          · show Act.put _ (some 20) _ = _
            simp only [Act.put, List.setIfInBounds_toArray, List.set_cons_zero, List.set_cons_succ]
            rfl
          refine one_ (i := 11) (N := some 21) #[true, true, true, true, true, true, true, true, true, true, true, true, true, false] rfl rfl (one_of HT_.out (by kernel_rfl)) (by decide) (fun K hK => ?_)
          refine goes_ Try.func110 (by kernel_rfl) rfl #[.agg #[.int .u64 (h1 : Int), .int .u64 (l1 : Int), .bool s1], .agg #[.int .u64 (h3 : Int), .int .u64 (l3 : Int), .bool s3]] (by rfl) rfl rfl (by (try simp only [List.map_toArray, List.map_cons, List.map_nil]); first | done | rfl) ?_
          refine (Z4.out _ _ _ _ _ _ _ _ hw1 hw3 hZ).mono ?_
          rintro e v4z ⟨h4, l4, s4, hw4, rfl, hZn⟩
          refine ⟨_, rfl, ?_⟩
          refine hK.out _ _ hZn.1 (fun hHeld => ?_)
          clear hZ
          have hZ := hZn
          clear hZn
          clear hK K
          refine norm_ (a' := ?_) ?_ ?_
          rotate_left
          · show Act.put _ (some 21) _ = _
            simp only [Act.put, List.setIfInBounds_toArray, List.set_cons_zero, List.set_cons_succ]
            rfl
          refine one_ (i := 13) (N := none) #[true, true, true, true, true, true, true, true, true, true, true, true, true, true] rfl rfl (one_of HT_.out (by kernel_rfl)) (by decide) (fun K hK => ?_)
          have y0 : v4z.cell? ⟨z, 0, none⟩ = some (.int .u64 0) := hZ.2.1.cell 0
          have y1 : v4z.cell? ⟨z, 1, none⟩ = some (.int .u64 0) := hZ.2.1.cell 1
          have y2 : v4z.cell? ⟨z, 2, none⟩ = some (.bool false) := hZ.2.1.cell 2
          have z0 := hZ.2.1.free 0
          have z1 := hZ.2.1.free 1
          have z2 := hZ.2.1.free 2
          refine skip_ (w1 := ((v4z.setCell ⟨z, 0, none⟩ (.int .u64 (h4 : Int))).setCell ⟨z, 1, none⟩ (.int .u64 (l4 : Int))).setCell ⟨z, 2, none⟩ (.bool s4)) (by rfl) rfl (by go_simp) ?_
          refine hK.out _ _ (hZ.set3 0 1 2 _ _ _) (fun hHeld => ?_)
          clear hK K
          refine done_ (done_of HT_.out (by kernel_rfl)) ?_
          go_wp2
          go_meet
          case rel => exact ⟨z, h4, l4, s4, rfl, hw4, ((hZ.2.1.set 0 (.int .u64 (h4 : Int))).set 1 (.int .u64 (l4 : Int))).set 2 (.bool s4), hHeld.2.2⟩
      · refine gives_ (v := .pointer (some ⟨v1.heap.size, 0, none⟩)) (w1 := v1.alloc (.cells #[.int .u64 0, .int .u64 0, .bool false] 161)) (by rfl) rfl (by go_simp) ?_
        have hZ := Kz.of_alloc hHeld
        refine hK.out _ _ hZ.1 (fun hHeld => ?_)
        generalize v1.heap.size = z at hZ ⊢
        generalize v1.alloc (.cells #[.int .u64 0, .int .u64 0, .bool false] 161) = va at hZ hHeld ⊢
        clear hK K
        refine norm_ (a' := ?_) ?_ ?_
        rotate_left
        · show Act.put _ (some 5) _ = _
          simp only [Act.put, List.setIfInBounds_toArray, List.set_cons_zero, List.set_cons_succ]
          rfl
        refine one_ (i := 9) (N := some 19) #[true, true, true, true, true, true, true, true, true, true, false, false, true, false] rfl rfl (one_of HT_.out (by kernel_rfl)) (by decide) (fun K hK => ?_)
        refine goes_ Try.func109 (by kernel_rfl) rfl #[.int .i64 c, .int .i64 b] (by rfl) rfl rfl (by (try simp only [List.map_toArray, List.map_cons, List.map_nil]); first | done | rfl) ?_
        refine (Z2.out _ _ hZ).mono ?_
        rintro e v2z ⟨h2, l2, s2, hw2, rfl, hZn⟩
        refine ⟨_, rfl, ?_⟩
        refine hK.out _ _ hZn.1 (fun hHeld => ?_)
        clear hZ
        have hZ := hZn
        clear hZn
        clear hK K
        refine norm_ (a' := ?_) ?_ ?_
        rotate_left
        · show Act.put _ (some 19) _ = _
          simp only [Act.put, List.setIfInBounds_toArray, List.set_cons_zero, List.set_cons_succ]
          rfl
        refine one_ (i := 10) (N := some 20) #[true, true, true, true, true, true, true, true, true, true, true, false, true, false] rfl rfl (one_of HT_.out (by kernel_rfl)) (by decide) (fun K hK => ?_)
        refine goes_ Try.func111 (by kernel_rfl) rfl #[.agg #[.int .u64 (h2 : Int), .int .u64 (l2 : Int), .bool s2]] (by rfl) rfl rfl (by (try simp only [List.map_toArray, List.map_cons, List.map_nil]); first | done | rfl) ?_
        refine (Z3.out _ _ _ _ _ hw2 hZ).mono ?_
        rintro e v3z ⟨h3, l3, s3, hw3, rfl, hZn⟩
        refine ⟨_, rfl, ?_⟩
        refine hK.out _ _ hZn.1 (fun hHeld => ?_)
        clear hZ
        have hZ := hZn
        clear hZn
        clear hK K
        refine norm_ (a' := ?_) ?_ ?_
        rotate_left
        · show Act.put _ (some 20) _ = _
          simp only [Act.put, List.setIfInBounds_toArray, List.set_cons_zero, List.set_cons_succ]
          rfl
        refine one_ (i := 11) (N := some 21) #[true, true, true, true, true, true, true, true, true, true, true, true, true, false] rfl rfl (one_of HT_.out (by kernel_rfl)) (by decide) (fun K hK => ?_)
        refine goes_ Try.func110 (by kernel_rfl) rfl #[.agg #[.int .u64 (h1 : Int), .int .u64 (l1 : Int), .bool s1], .agg #[.int .u64 (h3 : Int), .int .u64 (l3 : Int), .bool s3]] (by rfl) rfl rfl (by (try simp only [List.map_toArray, List.map_cons, List.map_nil]); first | done | rfl) ?_
        refine (Z4.out _ _ _ _ _ _ _ _ hw1 hw3 hZ).mono ?_
        rintro e v4z ⟨h4, l4, s4, hw4, rfl, hZn⟩
        refine ⟨_, rfl, ?_⟩
        refine hK.out _ _ hZn.1 (fun hHeld => ?_)
        clear hZ
        have hZ := hZn
        clear hZn
        clear hK K
        refine norm_ (a' := ?_) ?_ ?_
        rotate_left
        · show Act.put _ (some 21) _ = _
          simp only [Act.put, List.setIfInBounds_toArray, List.set_cons_zero, List.set_cons_succ]
          rfl
        refine one_ (i := 13) (N := none) #[true, true, true, true, true, true, true, true, true, true, true, true, true, true] rfl rfl (one_of HT_.out (by kernel_rfl)) (by decide) (fun K hK => ?_)
        have y0 : v4z.cell? ⟨z, 0, none⟩ = some (.int .u64 0) := hZ.2.1.cell 0
        have y1 : v4z.cell? ⟨z, 1, none⟩ = some (.int .u64 0) := hZ.2.1.cell 1
        have y2 : v4z.cell? ⟨z, 2, none⟩ = some (.bool false) := hZ.2.1.cell 2
        have z0 := hZ.2.1.free 0
        have z1 := hZ.2.1.free 1
        have z2 := hZ.2.1.free 2
        refine skip_ (w1 := ((v4z.setCell ⟨z, 0, none⟩ (.int .u64 (h4 : Int))).setCell ⟨z, 1, none⟩ (.int .u64 (l4 : Int))).setCell ⟨z, 2, none⟩ (.bool s4)) (by rfl) rfl (by go_simp) ?_
        refine hK.out _ _ (hZ.set3 0 1 2 _ _ _) (fun hHeld => ?_)
        clear hK K
        refine done_ (done_of HT_.out (by kernel_rfl)) ?_
        go_wp2
        go_meet
        case rel => exact ⟨z, h4, l4, s4, rfl, hw4, ((hZ.2.1.set 0 (.int .u64 (h4 : Int))).set 1 (.int .u64 (l4 : Int))).set 2 (.bool s4), hHeld.2.2⟩
    · refine gives_ (v := .pointer (some ⟨w2.heap.size, 0, none⟩)) (w1 := w2.alloc (.cells #[.int .u64 0, .int .u64 0, .bool false] 161)) (by rfl) rfl (by go_simp) ?_
      have hZ := Kz.of_alloc hHeld
      refine hK.out _ _ hZ.1 (fun hHeld => ?_)
      generalize w2.heap.size = z at hZ ⊢
      generalize w2.alloc (.cells #[.int .u64 0, .int .u64 0, .bool false] 161) = va at hZ hHeld ⊢
      clear hK K
      refine norm_ (a' := ?_) ?_ ?_
      rotate_left
      · show Act.put _ (some 5) _ = _
        simp only [Act.put, List.setIfInBounds_toArray, List.set_cons_zero, List.set_cons_succ]
        rfl
      refine one_ (i := 4) (N := some 14) #[true, true, true, true, true, true, true, true, true, false, false, false, true, false] rfl rfl (one_of HT_.out (by kernel_rfl)) (by decide) (fun K hK => ?_)
      refine goes_ Try.func109 (by kernel_rfl) rfl #[.int .i64 a, .int .i64 d] (by rfl) rfl rfl (by (try simp only [List.map_toArray, List.map_cons, List.map_nil]); first | done | rfl) ?_
      refine (Z1.out _ _ hZ).mono ?_
      rintro e v1z ⟨h1, l1, s1, hw1, rfl, hZn⟩
      refine ⟨_, rfl, ?_⟩
      refine hK.out _ _ hZn.1 (fun hHeld => ?_)
      clear hZ
      have hZ := hZn
      clear hZn
      clear hK K
      refine norm_ (a' := ?_) ?_ ?_
      rotate_left
      · show Act.put _ (some 14) _ = _
        simp only [Act.put, List.setIfInBounds_toArray, List.set_cons_zero, List.set_cons_succ]
        rfl
      refine one_ (i := 9) (N := some 19) #[true, true, true, true, true, true, true, true, true, true, false, false, true, false] rfl rfl (one_of HT_.out (by kernel_rfl)) (by decide) (fun K hK => ?_)
      refine goes_ Try.func109 (by kernel_rfl) rfl #[.int .i64 c, .int .i64 b] (by rfl) rfl rfl (by (try simp only [List.map_toArray, List.map_cons, List.map_nil]); first | done | rfl) ?_
      refine (Z2.out _ _ hZ).mono ?_
      rintro e v2z ⟨h2, l2, s2, hw2, rfl, hZn⟩
      refine ⟨_, rfl, ?_⟩
      refine hK.out _ _ hZn.1 (fun hHeld => ?_)
      clear hZ
      have hZ := hZn
      clear hZn
      clear hK K
      refine norm_ (a' := ?_) ?_ ?_
      rotate_left
      · show Act.put _ (some 19) _ = _
        simp only [Act.put, List.setIfInBounds_toArray, List.set_cons_zero, List.set_cons_succ]
        rfl
      refine one_ (i := 10) (N := some 20) #[true, true, true, true, true, true, true, true, true, true, true, false, true, false] rfl rfl (one_of HT_.out (by kernel_rfl)) (by decide) (fun K hK => ?_)
      refine goes_ Try.func111 (by kernel_rfl) rfl #[.agg #[.int .u64 (h2 : Int), .int .u64 (l2 : Int), .bool s2]] (by rfl) rfl rfl (by (try simp only [List.map_toArray, List.map_cons, List.map_nil]); first | done | rfl) ?_
      refine (Z3.out _ _ _ _ _ hw2 hZ).mono ?_
      rintro e v3z ⟨h3, l3, s3, hw3, rfl, hZn⟩
      refine ⟨_, rfl, ?_⟩
      refine hK.out _ _ hZn.1 (fun hHeld => ?_)
      clear hZ
      have hZ := hZn
      clear hZn
      clear hK K
      refine norm_ (a' := ?_) ?_ ?_
      rotate_left
      · show Act.put _ (some 20) _ = _
        simp only [Act.put, List.setIfInBounds_toArray, List.set_cons_zero, List.set_cons_succ]
        rfl
      refine one_ (i := 11) (N := some 21) #[true, true, true, true, true, true, true, true, true, true, true, true, true, false] rfl rfl (one_of HT_.out (by kernel_rfl)) (by decide) (fun K hK => ?_)
      refine goes_ Try.func110 (by kernel_rfl) rfl #[.agg #[.int .u64 (h1 : Int), .int .u64 (l1 : Int), .bool s1], .agg #[.int .u64 (h3 : Int), .int .u64 (l3 : Int), .bool s3]] (by rfl) rfl rfl (by (try simp only [List.map_toArray, List.map_cons, List.map_nil]); first | done | rfl) ?_
      refine (Z4.out _ _ _ _ _ _ _ _ hw1 hw3 hZ).mono ?_
      rintro e v4z ⟨h4, l4, s4, hw4, rfl, hZn⟩
      refine ⟨_, rfl, ?_⟩
      refine hK.out _ _ hZn.1 (fun hHeld => ?_)
      clear hZ
      have hZ := hZn
      clear hZn
      clear hK K
      refine norm_ (a' := ?_) ?_ ?_
      rotate_left
      · show Act.put _ (some 21) _ = _
        simp only [Act.put, List.setIfInBounds_toArray, List.set_cons_zero, List.set_cons_succ]
        rfl
      refine one_ (i := 13) (N := none) #[true, true, true, true, true, true, true, true, true, true, true, true, true, true] rfl rfl (one_of HT_.out (by kernel_rfl)) (by decide) (fun K hK => ?_)
      have y0 : v4z.cell? ⟨z, 0, none⟩ = some (.int .u64 0) := hZ.2.1.cell 0
      have y1 : v4z.cell? ⟨z, 1, none⟩ = some (.int .u64 0) := hZ.2.1.cell 1
      have y2 : v4z.cell? ⟨z, 2, none⟩ = some (.bool false) := hZ.2.1.cell 2
      have z0 := hZ.2.1.free 0
      have z1 := hZ.2.1.free 1
      have z2 := hZ.2.1.free 2
      refine skip_ (w1 := ((v4z.setCell ⟨z, 0, none⟩ (.int .u64 (h4 : Int))).setCell ⟨z, 1, none⟩ (.int .u64 (l4 : Int))).setCell ⟨z, 2, none⟩ (.bool s4)) (by rfl) rfl (by go_simp) ?_
      refine hK.out _ _ (hZ.set3 0 1 2 _ _ _) (fun hHeld => ?_)
      clear hK K
      refine done_ (done_of HT_.out (by kernel_rfl)) ?_
      go_wp2
      go_meet
      case rel => exact ⟨z, h4, l4, s4, rfl, hw4, ((hZ.2.1.set 0 (.int .u64 (h4 : Int))).set 1 (.int .u64 (l4 : Int))).set 2 (.bool s4), hHeld.2.2⟩
  case rest =>
    clear c0 c1 c2 c3 hk T1 T2 K1 K2 K3 K4 Z1 Z2 Z3 Z4 BD
    obtain ⟨z, h, l, s, rfl, hw, hr, hn⟩ := hcut
    have r0 : wc.cell? ⟨z, 0, none⟩ = some (.int .u64 (h : Int)) := hr.cell 0
    have r1 : wc.cell? ⟨z, 1, none⟩ = some (.int .u64 (l : Int)) := hr.cell 1
    have r2 : wc.cell? ⟨z, 2, none⟩ = some (.bool s) := hr.cell 2
    have IZ := Lib.hid (fun W => isZero_any h l W)
    have HW := Lib.hid hw
    have HN := Lib.hid hn
    have HR := Lib.hid hr
    have hz : zeroB (two h l) = decide (a * d + -(c * b) = 0) := by unfold zeroB; rw [hw.2.2.1]; exact decide_eq_decide.2 (by omega)
    rw [hz] at IZ
    have hs := hw.2.2.2
    have HE := Lib.hid (show a * d - c * b = a * d + -(c * b) by omega)
    generalize a * d + -(c * b) = n at *
    clear hz hw hn hr
    by_cases hn0 : n = 0
    · subst hn0
      have HS := Lib.hid (show (0 : Int) = sgn (a * d - c * b) by rw [HE.out]; rfl)
      rw [show decide ((0 : Int) = 0) = true from rfl] at IZ
      go_wp2_with fail
      refine (IZ.out _).mono ?_
      rintro e w3 ⟨rfl, hn3⟩
      have N3 := Lib.hid (HN.out.trans hn3)
      clear r0 r1 r2 hn3 IZ HW HR hs
      go_wp2_with fail
      go_ret
      exact ⟨retI HS.out, N3.out⟩
    · rw [show decide (n = 0) = false from decide_eq_false hn0] at IZ
      have HS := Lib.hid (show (if s then (-1 : Int) else 1) = sgn (a * d - c * b) by
        rw [HE.out]; unfold sgn; rw [if_neg hn0, hs]
        by_cases h5 : n < 0 <;> simp [h5])
      clear hs hn0 HW
      go_wp2_with fail
      refine (IZ.out _).mono ?_
      rintro e w3 ⟨rfl, hn3⟩
      have N3 := Lib.hid (HN.out.trans hn3)
      have r5 : w3.cell? ⟨z, 2, none⟩ = some (.bool s) := (hn3.row HR.out).cell 2
      clear r0 r1 r2 hn3 IZ HR HN
      cases s
      · go_wp2_with fail
        go_ret
        exact ⟨retI HS.out, N3.out⟩
      · go_wp2_with fail
        go_ret
        exact ⟨retI HS.out, N3.out⟩
theorem compare_rat (a b c d : Int) (ha : In64 a) (hb : In64 b) (hc : In64 c) (hd : In64 d) (w : World) :
    Calls Try.prog 43 #[.agg #[.int .i64 a, .int .i64 b], .agg #[.int .i64 c, .int .i64 d]] w fun e w' => e = .returned (.int .i64 (cmpR a b c d)) ∧ New w w' := by
  unfold cmpR
  by_cases h : (rightR a b && rightR c d) = true
  · rw [if_pos h]; exact compare_yes a b c d ha hb hc hd h w
  · rw [if_neg h]; exact compare_no a b c d ha hb hc hd (by simpa using h) w
end Go.Proofs.Ytapfihlgemejiaa
