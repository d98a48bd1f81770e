/- gnomontop.keeps: does a fraction keep a bound? -/
import Derived.Test.YtapfihlgemejiaaN12
namespace Go.Proofs.Ytapfihlgemejiaa
open Go.RowKit Go.Proofs.YtapfihlgemejiaaW.PrintLast
def kpRT : Bool × List (List Nat × List Nat) := (true, [([], []), ([], []), ([1], [1]), ([0, 2, 2], [0, 2]), ([3, 3, 0, 1, 2, 3], [3])])
def kpRB : List Nat := [0, 0, 2, 7, 15]
theorem kpRTab : rtab .any (opsOf Try.f54 4) = kpRT := by kernel_rfl
theorem kpRBits : waitsOk kpRT.2 kpRB = true := by kernel_rfl
theorem i64_and_one (b : Int) : bits .and .i64 b 1 = b % 2 := by
  show IntKind.i64.wrap ((BitVec.ofInt 64 b &&& BitVec.ofInt 64 1).toNat : Int) = _
  rw [BitVec.toNat_and, show (BitVec.ofInt 64 1).toNat = 1 from rfl, Nat.and_one_is_mod, BitVec.toNat_ofInt, IntKind.wrap_i64]
  omega
def keepsB (b x y : Int) : Bool := decide (b = 2147483647) || (decide (cmpR x y (b / 2) 1 < 0) || (decide (cmpR x y (b / 2) 1 = 0) && decide (b % 2 = 1)))
set_option maxRecDepth 100000 in
set_option maxHeartbeats 4000000 in
theorem keeps_any (b x y : Int) (hb1 : -2147483648 ≤ b) (hb2 : b ≤ 2147483647) (hx : In64 x) (hy : In64 y) (w : World) :
    Calls Try.prog 54 #[.int .i32 b, .agg #[.int .i64 x, .int .i64 y]] w fun e w' => e = .returned (.bool (keepsB b x y)) ∧ New w w' := by
  by_cases hI : b = 2147483647
  · subst hI
    have hk : keepsB 2147483647 x y = true := rfl
    rw [hk]
    clear hx hy hk
    go_enter Try.func54, Try.ntmps54
    go_wp2_with fail
    go_ret
    exact ⟨rfl, (New.refl w).alloc _⟩
  · have hIb : (b == 2147483647) = false := by simpa using hI
    have CMP := Lib.hid (fun W => compare_rat x y (b / 2) 1 hx hy (by unfold In64; omega) (by unfold In64; omega) W)
    have hk : keepsB b x y = (decide (cmpR x y (b / 2) 1 < 0) || (decide (cmpR x y (b / 2) 1 = 0) && decide (b % 2 = 1))) := by unfold keepsB; rw [decide_eq_false hI]; rfl
    rw [hk]
    have ha := i64_and_one b
    have hd : (b - b % 2).tdiv 2 = b / 2 := by
      have h2 : b - b % 2 = 2 * (b / 2) := by omega
      rw [h2, Int.mul_tdiv_cancel_left _ (by omega)]
    have hw1 : IntKind.i64.wrap (b - b % 2) = b - b % 2 := by rw [IntKind.wrap_i64]; omega
    have hw2 : IntKind.i64.wrap (b / 2) = b / 2 := by rw [IntKind.wrap_i64]; omega
    generalize cmpR x y (b / 2) 1 = r at *
    have HM := Lib.hid (show b % 2 = 0 ∨ b % 2 = 1 by omega)
    clear hx hy hk hI
    go_enter Try.func54, Try.ntmps54
    go_wp2_with fail
    have hrow : Row (w.alloc (.cells #[.int .i64 x, .int .i64 y] 75)) w.heap.size 75 [.int .i64 x, .int .i64 y] := Row.new w 75 _
    have hnew : New w (w.alloc (.cells #[.int .i64 x, .int .i64 y] 75)) := (New.refl w).alloc _
    generalize w.alloc (.cells #[.int .i64 x, .int .i64 y] 75) = w1 at *
    refine start_ (n := 5) (S := fun W => Row W w.heap.size 75 [.int .i64 x, .int .i64 y] ∧ New w W) (ds := []) #[false, false, false, false, false] (by kernel_rfl) rfl rfl ⟨hrow.drew, hnew.drew⟩ (fun hHeld => ?_); refine with_tabW kpRTab kpRBits (fun HT_ HW_ => ?_)
    clear hrow hnew
    generalize w1.drew = w2 at hHeld ⊢
    refine pure_ (i := 1) (N := some 17) (v := ?_) (a' := ?_) #[false, true, false, false, false] rfl rfl (any_of HT_.out (by kernel_rfl)) (fun _ _ _ h => h) (Or.inl ⟨by rfl, ?_⟩) ?_ ?_
    rotate_left
    · intro w'
      go_simp
      with_reducible rfl
    rotate_left
    · simp only [Act.put, List.setIfInBounds_toArray, List.set_cons_zero, List.set_cons_succ]
      rfl
    refine take_ (i := 0) (N := some 16) (v := ?_) (a' := ?_) #[true, true, false, false, false] rfl rfl (take_ofW HT_.out HW_.out (by kernel_rfl)) (fun _ _ _ h => h) (Or.inl ⟨by rfl, ?_⟩) hHeld ?_ ?_
    rotate_left
    · intro w' hkt
      have s0 := hkt.1.cell 0
      have s1 := hkt.1.cell 1
      simp only [List.getElem?_cons_zero, List.getElem?_cons_succ] at s0 s1
      go_simp
      with_reducible rfl
    rotate_left
    · simp only [Act.put, List.setIfInBounds_toArray, List.set_cons_zero, List.set_cons_succ]
      rfl
    refine one_ (i := 2) (N := some 18) #[true, true, true, false, false] rfl rfl (one_of HT_.out (by kernel_rfl)) (by decide) (fun K hK => ?_)
    refine goes_ Try.func44 (by kernel_rfl) rfl #[.int .i64 (b / 2)] (by rfl) rfl rfl (by (try simp only [List.map_toArray, List.map_cons, List.map_nil]); first | done | rfl) ?_
    refine (of_rat (b / 2) w2).mono ?_
    rintro e w3 ⟨rfl, hn3⟩
    refine ⟨_, rfl, ?_⟩
    refine hK.out _ _ ⟨hn3.row hHeld.1, hHeld.2.trans hn3⟩ (fun hHeld => ?_)
    clear hK K
    refine norm_ (a' := ?_) ?_ ?_
    rotate_left
    · show Act.put _ (some 18) _ = _
      simp only [Act.put, List.setIfInBounds_toArray, List.set_cons_zero, List.set_cons_succ]
      rfl
    refine one_ (i := 3) (N := some 19) #[true, true, true, true, false] rfl rfl (one_of HT_.out (by kernel_rfl)) (by decide) (fun K hK => ?_)
    refine goes_ Try.func43 (by kernel_rfl) rfl #[.agg #[.int .i64 x, .int .i64 y], .agg #[.int .i64 (b / 2), .int .i64 1]] (by rfl) rfl rfl (by (try simp only [List.map_toArray, List.map_cons, List.map_nil]); first | done | rfl) ?_
    refine (CMP.out w3).mono ?_
    rintro e w4 ⟨rfl, hn4⟩
    refine ⟨_, rfl, ?_⟩
    refine hK.out _ _ ⟨hn4.row hHeld.1, hHeld.2.trans hn4⟩ (fun hHeld => ?_)
    clear hK K
    refine norm_ (a' := ?_) ?_ ?_
    rotate_left
    · show Act.put _ (some 19) _ = _
      simp only [Act.put, List.setIfInBounds_toArray, List.set_cons_zero, List.set_cons_succ]
      rfl
    refine pure_ (i := 4) (N := some 6) (v := ?_) (a' := ?_) #[true, true, true, true, true] rfl rfl (any_of HT_.out (by kernel_rfl)) (fun _ _ _ h => h) (Or.inl ⟨by rfl, ?_⟩) ?_ ?_
    rotate_left
    · intro w'
      go_simp
      with_reducible rfl
    rotate_left
    · simp only [Act.put, List.setIfInBounds_toArray, List.set_cons_zero, List.set_cons_succ]
      rfl
    refine done_ (done_of HT_.out (by kernel_rfl)) ?_
    have hNw := hHeld.2
    have HN := Lib.hid hNw
    clear hNw hHeld
    by_cases h1 : r < 0
    · go_wp2_with fail
      go_ret
      exact ⟨by simp [h1], HN.out⟩
    · by_cases h2 : r = 0
      · have h2b : (r == 0) = true := by simpa using h2
        rcases HM.out with h3 | h3
        · rw [h3] at ha
          go_wp2_with fail
          go_ret
          exact ⟨by simp, HN.out⟩
        · rw [h3] at ha
          go_wp2_with fail
          go_ret
          exact ⟨by simp, HN.out⟩
      · have h2b : (r == 0) = false := by simpa using h2
        go_wp2_with fail
        go_ret
        exact ⟨by simp [h1], HN.out⟩
end Go.Proofs.Ytapfihlgemejiaa
