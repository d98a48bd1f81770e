/- Walks over package ops: Constrain with one bound. -/
import Derived.Test.YtapfihlgemejiaaY7
namespace Go.Proofs.Ytapfihlgemejiaa
open Go.RowKit Go.Proofs.YtapfihlgemejiaaW.PrintLast
def r55T : Bool × List (List Nat × List Nat) := (true, [([], []), ([0], [0]), ([1], [1]), ([2], [2]), ([], []), ([4], [4]), ([3, 5], [3, 5]), ([6], [6]), ([7, 6], [7]), ([8], [8]), ([9, 8], [8, 9]), ([10, 8], [8, 10]), ([11, 8], [8, 11]), ([8], [8]), ([13, 8], [8, 13]), ([12, 14, 8, 8], [8, 12, 14]), ([15, 8], [8, 15]), ([8, 16], [8, 16])])
def r55B : List Nat := [0, 1, 3, 7, 0, 16, 63, 127, 255, 511, 1023, 2047, 4095, 511, 8703, 32767, 65535, 131071]
theorem r55Tab : rtab .any (opsOf Try.f55 7) = r55T := by kernel_rfl
theorem r55Bits : waitsOk r55T.2 r55B = true := by kernel_rfl
set_option maxRecDepth 100000 in
set_option maxHeartbeats 4000000 in
theorem constrain_one (b : Nat) (z : Zn) (i j : Nat) (v : Int) (A : Option Addr) (c : Nat) (w : World) (h : ZoneAt w b z) (hA : Elems w w.heap.size A (limRow [⟨i, j, v⟩])) (hi : i ≤ z.n) (hj : j ≤ z.n) (hv : rightB v = true) :
    Calls Try.prog 55 #[.pointer (some ⟨b, 0, none⟩), .slice A 1 c] w fun e w' => ZRet w z.n (ofZ z.n (cellsOf ⟨z.n, cutC i j v (openW z)⟩)) e w' ∧ New w w' := by
  have hdim := h.dim
  have OP := Lib.hid (wopen_any b z w h)
  have HL0 := Lib.hid (openW_length z)
  obtain ⟨ga, off, rfl, hga, q1, q2, q3⟩ := hA.lims 0 (by simp)
  have HC : Hid (∀ W, New w W → ∀ k, k < 1 → W.cell? ⟨ga, off + k * 3, none⟩ = some (.int .i64 i) ∧ W.cell? ⟨ga, off + k * 3 + 1, none⟩ = some (.int .i64 j) ∧ W.cell? ⟨ga, off + k * 3 + 2, none⟩ = some (.int .i32 v)) := Lib.hid fun W hW k hk => by
    have e : k = 0 := by omega
    subst e
    exact ⟨(World.cell?_of_block (hW.block ga hga (fun e => e))).trans q1, (World.cell?_of_block (hW.block ga hga (fun e => e))).trans q2, (World.cell?_of_block (hW.block ga hga (fun e => e))).trans q3⟩
  have hi9 : i < 9 := by omega
  have hj9 : j < 9 := by omega
  have RI := Lib.hid (fun W => right_any v W)
  rw [hv] at RI
  have I1 := Lib.hid (fun W => isAny_yes z.n i (by omega) (by omega) W)
  have I2 := Lib.hid (fun W => isAny_yes z.n j (by omega) (by omega) W)
  clear h hA q1 q2 q3 hga hv hi hj
  go_enter Try.func55, Try.ntmps55
  go_wp2_with fail
  refine OP.out.mono ?_
  rintro e w1 ⟨g, rfl, hg, hr, hn1⟩
  have HR := Lib.hid hr
  have HN := Lib.hid hn1
  have HG := Lib.hid hg
  clear hr hn1 hg OP
  generalize hLz : openW z = L0 at *
  have HLZ := Lib.hid hLz
  clear hLz
  generalize hzn : z.n = n at *
  have HZN := Lib.hid hzn
  clear hzn
  go_wp2_with fail
  go_loopw [19] (fun ci wr => ∃ k : Nat, k ≤ 1 ∧ ci = .int .i64 k ∧ Hid (Row wr g 183 (zoneRow n L0) ∧ New w wr)) (fun ci _ => 1 - (intOf ci).toNat)
  case atStart => exact ⟨0, by omega, by go_num, ⟨HR.out, HN.out⟩⟩
  case round =>
    obtain ⟨k, hk, rfl, HK⟩ := hrel
    clear HR HN
    by_cases hlt : k < 1
    · have hltz : (k : Int) < 1 := by omega
      obtain ⟨c1, c2, c3⟩ := HC.out wr HK.out.2 k hlt
      have HL := Lib.hid hlt
      go_wp2_with fail
      have hrx : Row (wr.alloc (.cells #[.int .i64 i, .int .i64 j, .int .i32 v] 100)) wr.heap.size 100 [.int .i64 i, .int .i64 j, .int .i32 v] := Row.new wr 100 _
      have hrg := HK.out.1.alloc (.cells #[.int .i64 i, .int .i64 j, .int .i32 v] 100)
      have hnx := HK.out.2.alloc (.cells #[.int .i64 i, .int .i64 j, .int .i32 v] 100)
      generalize wr.alloc (.cells #[.int .i64 i, .int .i64 j, .int .i32 v] 100) = wx at *
      generalize wr.heap.size = gx at *
      clear c1 c2 c3
      refine start_ (n := 18) (S := fun W => Row W g 183 (zoneRow n L0) ∧ Row W gx 100 [.int .i64 i, .int .i64 j, .int .i32 v] ∧ New w W) (ds := []) #[false, false, false, false, false, false, false, false, false, false, false, false, false, false, false, false, false, false] (by kernel_rfl) rfl rfl ⟨hrg.drew, hrx.drew, hnx.drew⟩ (fun hHeld => ?_); refine with_tabW r55Tab r55Bits (fun HT_ HW_ => ?_)
      clear hrg hrx hnx
      generalize wx.drew = wd at hHeld ⊢
      refine pure_ (i := 0) (N := some 23) (v := ?_) (a' := ?_) #[true, false, false, false, false, false, false, false, false, false, false, false, false, false, false, false, false, false] rfl rfl (any_of HT_.out (by kernel_rfl)) (fun _ _ _ h => h) (Or.inl ⟨by rfl, ?_⟩) ?_ ?_
      rotate_left
      · intro w'
        go_simp
        with_reducible rfl
      rotate_left
      · simp only [Act.put, List.setIfInBounds_toArray, List.set_cons_zero, List.set_cons_succ]
        rfl
      refine pure_ (i := 1) (N := some 24) (v := ?_) (a' := ?_) #[true, true, false, false, false, false, false, false, false, false, false, false, false, false, false, false, false, false] rfl rfl (any_of HT_.out (by kernel_rfl)) (fun _ _ _ h => h) (Or.inl ⟨by rfl, ?_⟩) ?_ ?_
      rotate_left
      · intro w'
        go_simp
        with_reducible rfl
      rotate_left
      · simp only [Act.put, List.setIfInBounds_toArray, List.set_cons_zero, List.set_cons_succ]
        rfl
      refine pure_ (i := 2) (N := some 25) (v := ?_) (a' := ?_) #[true, true, true, false, false, false, false, false, false, false, false, false, false, false, false, false, false, false] rfl rfl (any_of HT_.out (by kernel_rfl)) (fun _ _ _ h => h) (Or.inl ⟨by rfl, ?_⟩) ?_ ?_
      rotate_left
      · intro w'
        go_simp
        with_reducible rfl
      rotate_left
      · simp only [Act.put, List.setIfInBounds_toArray, List.set_cons_zero, List.set_cons_succ]
        rfl
      refine pure_ (i := 4) (N := some 27) (v := ?_) (a' := ?_) #[true, true, true, false, true, false, false, false, false, false, false, false, false, false, false, false, false, false] rfl rfl (any_of HT_.out (by kernel_rfl)) (fun _ _ _ h => h) (Or.inl ⟨by rfl, ?_⟩) ?_ ?_
      rotate_left
      · intro w'
        go_simp
        with_reducible rfl
      rotate_left
      · simp only [Act.put, List.setIfInBounds_toArray, List.set_cons_zero, List.set_cons_succ]
        rfl
      refine take_ (i := 3) (N := some 26) (v := ?_) (a' := ?_) #[true, true, true, true, true, false, false, false, false, false, false, false, false, false, false, false, false, false] rfl rfl (take_ofW HT_.out HW_.out (by kernel_rfl)) (fun _ _ _ h => h) (Or.inl ⟨by rfl, ?_⟩) hHeld ?_ ?_
      rotate_left
      · intro w' hkt
        have s0 := zone_dim hkt.1
        have s1 := hkt.2.1.cell 0
        have s2 := hkt.2.1.cell 1
        simp only [List.getElem?_cons_zero, List.getElem?_cons_succ] at s1 s2
        go_simp
        with_reducible rfl
      rotate_left
      · simp only [Act.put, List.setIfInBounds_toArray, List.set_cons_zero, List.set_cons_succ]
        rfl
      refine take_ (i := 5) (N := some 28) (v := ?_) (a' := ?_) #[true, true, true, true, true, true, false, false, false, false, false, false, false, false, false, false, false, false] rfl rfl (take_ofW HT_.out HW_.out (by kernel_rfl)) (fun _ _ _ h => h) (Or.inl ⟨by rfl, ?_⟩) hHeld ?_ ?_
      rotate_left
      · intro w' hkt
        have s0 := zone_dim hkt.1
        have s1 := hkt.2.1.cell 0
        have s2 := hkt.2.1.cell 1
        simp only [List.getElem?_cons_zero, List.getElem?_cons_succ] at s1 s2
        go_simp
        with_reducible rfl
      rotate_left
      · simp only [Act.put, List.setIfInBounds_toArray, List.set_cons_zero, List.set_cons_succ]
        rfl
      refine one_ (i := 6) (N := some 29) #[true, true, true, true, true, true, true, false, false, false, false, false, false, false, false, false, false, false] rfl rfl (one_of HT_.out (by kernel_rfl)) (by decide) (fun K hK => ?_)
      refine goes_ Try.func123 (by kernel_rfl) rfl #[.agg #[.int .i64 n], .int .i64 i] (by rfl) rfl rfl (by (try simp only [List.map_toArray, List.map_cons, List.map_nil]); first | done | rfl) ?_
      refine (I1.out wd).mono ?_
      rintro e w3 ⟨rfl, hn3⟩
      refine ⟨_, rfl, ?_⟩
      refine hK.out _ _ ⟨hn3.row hHeld.1, hn3.row hHeld.2.1, hHeld.2.2.trans hn3⟩ (fun hHeld => ?_)
      clear hK K
      refine norm_ (a' := ?_) ?_ ?_
      rotate_left
      · show Act.put _ (some 29) _ = _
        simp only [Act.put, List.setIfInBounds_toArray, List.set_cons_zero, List.set_cons_succ]
        rfl
      refine pure_ (i := 7) (N := some 30) (v := ?_) (a' := ?_) #[true, true, true, true, true, true, true, true, false, false, false, false, false, false, false, false, false, false] rfl rfl (any_of HT_.out (by kernel_rfl)) (fun _ _ _ h => h) (Or.inl ⟨by rfl, ?_⟩) ?_ ?_
      rotate_left
      · intro w'
        go_simp
        with_reducible rfl
      rotate_left
      · simp only [Act.put, List.setIfInBounds_toArray, List.set_cons_zero, List.set_cons_succ]
        rfl
      refine pure_ (i := 8) (N := some 31) (v := ?_) (a' := ?_) #[true, true, true, true, true, true, true, true, true, false, false, false, false, false, false, false, false, false] rfl rfl (any_of HT_.out (by kernel_rfl)) (fun _ _ _ h => h) (Or.inl ⟨by rfl, ?_⟩) ?_ ?_
      rotate_left
      · intro w'
        go_simp
        with_reducible rfl
      rotate_left
      · simp only [Act.put, List.setIfInBounds_toArray, List.set_cons_zero, List.set_cons_succ]
        rfl
      refine pure_ (i := 9) (N := some 32) (v := ?_) (a' := ?_) #[true, true, true, true, true, true, true, true, true, true, false, false, false, false, false, false, false, false] rfl rfl (any_of HT_.out (by kernel_rfl)) (fun _ _ _ h => h) (Or.inl ⟨by rfl, ?_⟩) ?_ ?_
      rotate_left
      · intro w'
        go_simp
        with_reducible rfl
      rotate_left
      · simp only [Act.put, List.setIfInBounds_toArray, List.set_cons_zero, List.set_cons_succ]
        rfl
      refine pure_ (i := 10) (N := some 33) (v := ?_) (a' := ?_) #[true, true, true, true, true, true, true, true, true, true, true, false, false, false, false, false, false, false] rfl rfl (any_of HT_.out (by kernel_rfl)) (fun _ _ _ h => h) (Or.inl ⟨by rfl, ?_⟩) ?_ ?_
      rotate_left
      · intro w'
        go_simp
        with_reducible rfl
      rotate_left
      · simp only [Act.put, List.setIfInBounds_toArray, List.set_cons_zero, List.set_cons_succ]
        rfl
      refine pure_ (i := 11) (N := some 34) (v := ?_) (a' := ?_) #[true, true, true, true, true, true, true, true, true, true, true, true, false, false, false, false, false, false] rfl rfl (any_of HT_.out (by kernel_rfl)) (fun _ _ _ h => h) (Or.inl ⟨by rfl, ?_⟩) ?_ ?_
      rotate_left
      · intro w'
        go_simp
        with_reducible rfl
      rotate_left
      · simp only [Act.put, List.setIfInBounds_toArray, List.set_cons_zero, List.set_cons_succ]
        rfl
      refine pure_ (i := 13) (N := some 36) (v := ?_) (a' := ?_) #[true, true, true, true, true, true, true, true, true, true, true, true, false, true, false, false, false, false] rfl rfl (any_of HT_.out (by kernel_rfl)) (fun _ _ _ h => h) (Or.inl ⟨by rfl, ?_⟩) ?_ ?_
      rotate_left
      · intro w'
        go_simp
        with_reducible rfl
      rotate_left
      · simp only [Act.put, List.setIfInBounds_toArray, List.set_cons_zero, List.set_cons_succ]
        rfl
      refine take_ (i := 12) (N := some 35) (v := ?_) (a' := ?_) #[true, true, true, true, true, true, true, true, true, true, true, true, true, true, false, false, false, false] rfl rfl (take_ofW HT_.out HW_.out (by kernel_rfl)) (fun _ _ _ h => h) (Or.inl ⟨by rfl, ?_⟩) hHeld ?_ ?_
      rotate_left
      · intro w' hkt
        have s0 := zone_dim hkt.1
        have s1 := hkt.2.1.cell 0
        have s2 := hkt.2.1.cell 1
        simp only [List.getElem?_cons_zero, List.getElem?_cons_succ] at s1 s2
        go_simp
        with_reducible rfl
      rotate_left
      · simp only [Act.put, List.setIfInBounds_toArray, List.set_cons_zero, List.set_cons_succ]
        rfl
      refine take_ (i := 14) (N := some 37) (v := ?_) (a' := ?_) #[true, true, true, true, true, true, true, true, true, true, true, true, true, true, true, false, false, false] rfl rfl (take_ofW HT_.out HW_.out (by kernel_rfl)) (fun _ _ _ h => h) (Or.inl ⟨by rfl, ?_⟩) hHeld ?_ ?_
      rotate_left
      · intro w' hkt
        have s0 := zone_dim hkt.1
        have s1 := hkt.2.1.cell 0
        have s2 := hkt.2.1.cell 1
        simp only [List.getElem?_cons_zero, List.getElem?_cons_succ] at s1 s2
        go_simp
        with_reducible rfl
      rotate_left
      · simp only [Act.put, List.setIfInBounds_toArray, List.set_cons_zero, List.set_cons_succ]
        rfl
      refine one_ (i := 15) (N := some 38) #[true, true, true, true, true, true, true, true, true, true, true, true, true, true, true, true, false, false] rfl rfl (one_of HT_.out (by kernel_rfl)) (by decide) (fun K hK => ?_)
      refine goes_ Try.func123 (by kernel_rfl) rfl #[.agg #[.int .i64 n], .int .i64 j] (by rfl) rfl rfl (by (try simp only [List.map_toArray, List.map_cons, List.map_nil]); first | done | rfl) ?_
      refine (I2.out w3).mono ?_
      rintro e w5 ⟨rfl, hn3⟩
      refine ⟨_, rfl, ?_⟩
      refine hK.out _ _ ⟨hn3.row hHeld.1, hn3.row hHeld.2.1, hHeld.2.2.trans hn3⟩ (fun hHeld => ?_)
      clear hK K
      refine norm_ (a' := ?_) ?_ ?_
      rotate_left
      · show Act.put _ (some 38) _ = _
        simp only [Act.put, List.setIfInBounds_toArray, List.set_cons_zero, List.set_cons_succ]
        rfl
      refine pure_ (i := 16) (N := some 39) (v := ?_) (a' := ?_) #[true, true, true, true, true, true, true, true, true, true, true, true, true, true, true, true, true, false] rfl rfl (any_of HT_.out (by kernel_rfl)) (fun _ _ _ h => h) (Or.inl ⟨by rfl, ?_⟩) ?_ ?_
      rotate_left
      · intro w'
        go_simp
        with_reducible rfl
      rotate_left
      · simp only [Act.put, List.setIfInBounds_toArray, List.set_cons_zero, List.set_cons_succ]
        rfl
      refine pure_ (i := 17) (N := some 40) (v := ?_) (a' := ?_) #[true, true, true, true, true, true, true, true, true, true, true, true, true, true, true, true, true, true] rfl rfl (any_of HT_.out (by kernel_rfl)) (fun _ _ _ h => h) (Or.inl ⟨by rfl, ?_⟩) ?_ ?_
      rotate_left
      · intro w'
        go_simp
        with_reducible rfl
      rotate_left
      · simp only [Act.put, List.setIfInBounds_toArray, List.set_cons_zero, List.set_cons_succ]
        rfl
      refine done_ (done_of HT_.out (by kernel_rfl)) ?_
      have HQ := Lib.hid (And.intro hHeld.1 hHeld.2.2)
      clear hHeld HK
      go_wp2_with fail
      exact ⟨⟨k + 1, HL.out, by go_num, HQ⟩, by have := HL.out; simp [intOf] <;> omega⟩
    · have hltz : ¬ (k : Int) < 1 := by omega
      clear hlt
      go_wp2_with fail
      have HK1 := HK
      rename World => wrA
      clear HK
      go_loopw [44] (fun ci wr => ∃ k : Nat, k ≤ 1 ∧ ci = .int .i64 k ∧ Hid (Row wr g 183 (zoneRow n L0) ∧ New w wr)) (fun ci _ => 1 - (intOf ci).toNat)
      case atStart => exact ⟨0, by omega, by go_num, HK1⟩
      case round =>
        clear hltz hk
        obtain ⟨k, hk, rfl, HK⟩ := hrel
        clear HK1
        by_cases hlt : k < 1
        · have hltz : (k : Int) < 1 := by omega
          obtain ⟨c1, c2, c3⟩ := HC.out wr HK.out.2 k hlt
          have HL := Lib.hid hlt
          go_wp2_with fail
          refine (RI.out _).mono ?_
          rintro e w' ⟨rfl, rfl⟩
          have hrg := HK.out.1.alloc (.cells #[.int .i64 i, .int .i64 j, .int .i32 v] 100)
          have hnx := HK.out.2.alloc (.cells #[.int .i64 i, .int .i64 j, .int .i32 v] 100)
          have HQ := Lib.hid (And.intro hrg hnx)
          clear hrg hnx HK c1 c2 c3
          go_wp2_with fail
          exact ⟨⟨k + 1, HL.out, by go_num, HQ⟩, by have := HL.out; simp [intOf] <;> omega⟩
        · have hltz : ¬ (k : Int) < 1 := by omega
          clear hlt
          go_wp2_with fail
          have HK1 := HK
          clear HK
          go_loopw [55] (fun ci wr => ∃ k : Nat, k ≤ 1 ∧ ci = .int .i64 k ∧ Hid (Row wr g 183 (zoneRow n (if k = 0 then L0 else cutC i j v L0)) ∧ New w wr)) (fun ci _ => 1 - (intOf ci).toNat)
          case atStart => exact ⟨0, by omega, by go_num, HK1⟩
          case round =>
            clear hltz hk
            obtain ⟨k, hk, rfl, HK⟩ := hrel
            clear HK1
            by_cases hlt : k < 1
            · have hltz : (k : Int) < 1 := by omega
              obtain ⟨c1, c2, c3⟩ := HC.out wr HK.out.2 k hlt
              have HL := Lib.hid hlt
              rw [if_pos (by omega : k = 0)] at HK
              go_wp2_with fail
              have hrg := HK.out.1.alloc (.cells #[.int .i64 i, .int .i64 j, .int .i32 v] 100)
              have hnx := HK.out.2.alloc (.cells #[.int .i64 i, .int .i64 j, .int .i32 v] 100)
              have L4 := less_bound g n L0 i j v _ HL0.out hi9 hj9 hrg
              refine L4.mono ?_
              rintro e w4 ⟨rfl, hr4, ha4⟩
              have HQ : Hid (Row w4 g 183 (zoneRow n (cutC i j v L0)) ∧ New w w4) := Lib.hid ⟨hr4, hnx.at_ ha4 HG.out⟩
              clear hrg hnx HK c1 c2 c3 hr4 ha4 L4
              go_wp2_with fail
              exact ⟨⟨k + 1, HL.out, by go_num, HQ⟩, by have := HL.out; simp [intOf] <;> omega⟩
            · have hltz : ¬ (k : Int) < 1 := by omega
              rw [if_neg (by omega : ¬ k = 0)] at HK
              have SH := Lib.hid (shut_any g n _ wr HK.out.1 (by rw [cutC_length, HL0.out]) hdim)
              have HN5 := Lib.hid HK.out.2
              clear hlt HK
              go_wp2_with fail
              refine SH.out.mono ?_
              rintro e w6 ⟨hz, hn6⟩
              have HN6 := Lib.hid (HN5.out.trans hn6)
              clear SH
              cases hq : ofZ n (cellsOf ⟨n, cutC i j v L0⟩) with
              | err c =>
                rw [hq] at hz
                simp only [ZRet] at hz
                subst hz
                have HQ := Lib.hid hq
                clear hq hn6
                go_wp2_with fail
                go_ret2
                rw [HZN.out, HLZ.out, HQ.out]
                exact ⟨rfl, HN6.out⟩
              | ok Z =>
                rw [hq] at hz
                obtain ⟨g2, he, hg2, hrow⟩ := hz
                subst he
                have HG2 := Lib.hid (And.intro (Nat.le_trans HN5.out.size hg2) hrow)
                have HQ := Lib.hid hq
                clear hq hn6 hg2 hrow
                go_wp2_with fail
                go_ret2
                rw [HZN.out, HLZ.out, HQ.out]
                exact ⟨⟨g2, rfl, HG2.out.1, HG2.out.2⟩, HN6.out⟩
end Go.Proofs.Ytapfihlgemejiaa
