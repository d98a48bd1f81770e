/- gnomontop.holds: a valuation keeps a zone's cells. -/
import Derived.Test.YtapfihlgemejiaaY11
import Derived.Test.YtapfihlgemejiaaD5
import Derived.Test.YtapfihlgemejiaaO0
namespace Go.Proofs.Ytapfihlgemejiaa
open Go.RowKit Go.Proofs.YtapfihlgemejiaaW.PrintLast
def r57T : Bool × List (List Nat × List Nat) := (true, [([], []), ([], []), ([0, 1], [0, 1]), ([2], [2]), ([], []), ([], []), ([4, 5], [4, 5]), ([6], [6]), ([3, 7], [3, 7]), ([8], [8]), ([9], [9]), ([9], [9]), ([], []), ([12, 10, 8, 0, 1, 2, 3, 4, 5, 6, 7, 8, 9, 10, 12], [10, 12]), ([11, 13, 0, 1, 2, 3, 4, 5, 6, 7, 8, 9, 10, 11, 12, 13], [11])])
def r57B : List Nat := [0, 0, 3, 7, 0, 0, 48, 112, 255, 511, 1023, 1023, 0, 6143, 16383]
theorem r57Tab : rtab .any (opsOf Try.f57 8) = r57T := by kernel_rfl
theorem r57Bits : waitsOk r57T.2 r57B = true := by kernel_rfl
/-- The cells of a list of fractions. -/
def ratRow (r : List (Int × Int)) : List Value := r.flatMap fun p => [.int .i64 p.1, .int .i64 p.2]
theorem ratRow_get : ∀ (r : List (Int × Int)) (i : Nat), i < r.length → (ratRow r)[i * 2]? = some (.int .i64 (r.getD i (0, 0)).1) ∧ (ratRow r)[i * 2 + 1]? = some (.int .i64 (r.getD i (0, 0)).2)
  | p :: r, 0, _ => ⟨rfl, rfl⟩
  | p :: r, i + 1, h => by
    obtain ⟨h1, h2⟩ := ratRow_get r i (by simpa using h)
    have e : ratRow (p :: r) = .int .i64 p.1 :: .int .i64 p.2 :: ratRow r := rfl
    rw [e, show (i + 1) * 2 = i * 2 + 1 + 1 by omega]
    simp only [List.getElem?_cons_succ, List.getD_cons_succ]
    exact ⟨h1, h2⟩
/-- The list of fractions is the valuation. -/
def ValIs (n : Nat) (r : List (Int × Int)) (V : Nat → Int) : Prop := r.length = n + 1 ∧ ∀ i, i ≤ n → RatIs (r.getD i (0, 0)).1 (r.getD i (0, 0)).2 (V i) ∧ 0 ≤ V i ∧ V i ≤ 1000000
theorem sub_val {n : Nat} {r : List (Int × Int)} {V : Nat → Int} (h : ValIs n r V) {i j : Nat} (hi : i ≤ n) (hj : j ≤ n) (W : World) :
    Calls Try.prog 53 #[.agg #[.int .i64 (r.getD i (0, 0)).1, .int .i64 (r.getD i (0, 0)).2], .agg #[.int .i64 (r.getD j (0, 0)).1, .int .i64 (r.getD j (0, 0)).2]] W fun e w' =>
      ∃ x y, (RatIs x y (V i - V j) ∧ In64 x ∧ In64 y) ∧ e = .returned (.tuple #[.agg #[.int .i64 x, .int .i64 y], .int .i64 0]) ∧ New W w' := by
  obtain ⟨h1, h2, h3⟩ := h.2 i hi
  obtain ⟨k1, k2, k3⟩ := h.2 j hj
  obtain ⟨a1, a2⟩ := rat_in h1 h2 h3
  obtain ⟨b1, b2⟩ := rat_in k1 k2 k3
  refine (sub_yes _ _ _ _ a1 a2 b1 b2 (by rw [h1.1, k1.1]; rfl) W).mono ?_
  rintro e w' ⟨x, y, er, hm, rfl, hn⟩
  obtain ⟨rfl, c1, c2, c3⟩ := sub_ratIs h1 k1 h2 h3 k2 k3 hm
  exact ⟨x, y, ⟨c1, c2, c3⟩, rfl, hn⟩
set_option maxRecDepth 100000 in
set_option maxHeartbeats 4000000 in
theorem holds_yes (b gv cap : Nat) (z : Zn) (r : List (Int × Int)) (V : Nat → Int) (w : World) (h : ZoneAt w b z) (hr : Row w gv 75 (ratRow r)) (hV : ValIs z.n r V)
    (hk : ∀ p q, p ≤ z.n → q ≤ z.n → gt z.Z (9 * p + q) = 2147483647 ∨ ((-536870912 ≤ gt z.Z (9 * p + q) ∧ gt z.Z (9 * p + q) ≤ 536870913) ∧ Kf (gt z.Z (9 * p + q)) (V p - V q))) :
    Calls Try.prog 57 #[.pointer (some ⟨b, 0, none⟩), .slice (some ⟨gv, 0, none⟩) (z.n + 1) cap] w fun e w' => e = .returned (.bool true) ∧ New w w' := by
  have hdim := h.dim
  have HK := Lib.hid hk
  have HV := Lib.hid hV
  have HC : Hid (∀ W, New w W → ∀ i, i < z.n + 1 → W.cell? ⟨gv, i * 2, none⟩ = some (.int .i64 (r.getD i (0, 0)).1) ∧ W.cell? ⟨gv, i * 2 + 1, none⟩ = some (.int .i64 (r.getD i (0, 0)).2)) := Lib.hid fun W hW i hi => by
    obtain ⟨e1, e2⟩ := ratRow_get r i (by rw [hV.1]; exact hi)
    have := hW.row hr
    exact ⟨(this.cell _).trans e1, (this.cell _).trans e2⟩
  have CE := Lib.hid (fun W (hW : New w W) p q (hp : p ≤ z.n) (hq : q ≤ z.n) => cell_any b z p q W (h.new hW) hp hq)
  clear h hr hk hV
  obtain ⟨m, hm⟩ : ∃ m, z.n + 1 = m := ⟨_, rfl⟩
  have hm9 : m ≤ 9 := by omega
  rw [hm] at HC ⊢
  have HM := Lib.hid hm
  clear hm hdim
  go_enter Try.func57, Try.ntmps57
  go_wp2_with fail
  go_loopw [5] (fun ci wr => ∃ i : Nat, i ≤ m ∧ ci = .int .i64 i ∧ Hid (New w wr)) (fun ci _ => m - (intOf ci).toNat)
  case atStart => exact ⟨0, Nat.zero_le _, by go_num, New.refl w⟩
  case round =>
    obtain ⟨i, hi, rfl, HN⟩ := hrel
    by_cases hlt : i < m
    · have hltz : (i : Int) < m := by omega
      have HL := Lib.hid hlt
      go_wp2_with fail
      rename World => wo
      have HN0 := HN
      clear HN
      go_loopw [6] (fun ci wr => ∃ j : Nat, j ≤ m ∧ ci = .int .i64 j ∧ Hid (New w wr)) (fun ci _ => m - (intOf ci).toNat)
      case atStart => exact ⟨0, Nat.zero_le _, by go_num, HN0⟩
      case round =>
        clear HN0
        obtain ⟨j, hj, rfl, HN⟩ := hrel
        by_cases hlj : j < m
        · have hjz : (j : Int) < m := by omega
          have hin : i ≤ z.n := by have := HM.out; have := HL.out; omega
          have hjn : j ≤ z.n := by have := HM.out; omega
          have HLJ := Lib.hid hlj
          have SUB := Lib.hid (fun W => sub_val HV.out hin hjn W)
          obtain ⟨c1, c2⟩ := HC.out wr HN.out i hlt
          obtain ⟨c3, c4⟩ := HC.out wr HN.out j hlj
          have CIJ := Lib.hid (CE.out wr HN.out i j hin hjn)
          have KIJ := Lib.hid (HK.out i j hin hjn)
          have RC : Hid (∀ W, New wr W → W.cell? ⟨gv, i * 2, none⟩ = some (.int .i64 (r.getD i (0, 0)).1) ∧ W.cell? ⟨gv, i * 2 + 1, none⟩ = some (.int .i64 (r.getD i (0, 0)).2) ∧ W.cell? ⟨gv, j * 2, none⟩ = some (.int .i64 (r.getD j (0, 0)).1) ∧ W.cell? ⟨gv, j * 2 + 1, none⟩ = some (.int .i64 (r.getD j (0, 0)).2)) := Lib.hid fun W hW => by
            obtain ⟨d1, d2⟩ := HC.out W (HN.out.trans hW) i hlt
            obtain ⟨d3, d4⟩ := HC.out W (HN.out.trans hW) j hlj
            exact ⟨d1, d2, d3, d4⟩
          clear hin hjn c1 c2 c3 c4
          generalize gt z.Z (9 * i + j) = cij at *
          generalize (r.getD i (0, 0)).1 = a at *
          generalize (r.getD i (0, 0)).2 = bb at *
          generalize (r.getD j (0, 0)).1 = cc at *
          generalize (r.getD j (0, 0)).2 = d at *
          go_wp2_with fail
          refine CIJ.out.mono ?_
          rintro e w2 ⟨rfl, rfl⟩
          clear CIJ
          go_wp2_with fail
          go_cut [9, 10] (fun c9 c10 wc => ∃ (g : Nat) (x y : Int), c9 = .pointer (some ⟨g, 0, none⟩) ∧ c10 = .int .i64 0 ∧ Hid ((RatIs x y (V i - V j) ∧ In64 x ∧ In64 y) ∧ Row wc g 75 [.int .i64 x, .int .i64 y] ∧ New wr wc))
          case first =>
            refine start_ (n := 15) (S := fun W => New wr W) (ds := []) #[false, false, false, false, false, false, false, false, false, false, false, false, false, false, false] (by kernel_rfl) rfl rfl (New.refl wr).drew (fun hHeld => ?_); refine with_tabW r57Tab r57Bits (fun HT_ HW_ => ?_)
            have HWD : Hid (New wr wr.drew) := Lib.hid (New.refl wr).drew
            generalize wr.drew = wd at hHeld HWD ⊢
            refine pure_ (i := 0) (N := some 31) (v := ?_) (a' := ?_) #[true, false, false, false, false, false, false, false, false, false, false, false, false, false, false] rfl rfl (any_of HT_.out (by kernel_rfl)) (fun _ _ _ h => h) (Or.inl ⟨by rfl, ?_⟩) ?_ ?_
            rotate_left
            · intro w'
              go_simp
              with_reducible rfl
            rotate_left
            · simp only [Act.put, List.setIfInBounds_toArray, List.set_cons_zero, List.set_cons_succ]
              rfl
            refine pure_ (i := 1) (N := some 32) (v := ?_) (a' := ?_) #[true, true, false, false, false, false, false, false, false, false, false, false, false, false, false] rfl rfl (any_of HT_.out (by kernel_rfl)) (fun _ _ _ h => h) (Or.inl ⟨by rfl, ?_⟩) ?_ ?_
            rotate_left
            · intro w'
              go_simp
              with_reducible rfl
            rotate_left
            · simp only [Act.put, List.setIfInBounds_toArray, List.set_cons_zero, List.set_cons_succ]
              rfl
            refine pure_ (i := 2) (N := some 33) (v := ?_) (a' := ?_) #[true, true, true, false, false, false, false, false, false, false, false, false, false, false, false] rfl rfl (any_of HT_.out (by kernel_rfl)) (fun _ _ _ h => h) (Or.inl ⟨by rfl, ?_⟩) ?_ ?_
            rotate_left
            · intro w'
              go_simp
              with_reducible rfl
            rotate_left
            · simp only [Act.put, List.setIfInBounds_toArray, List.set_cons_zero, List.set_cons_succ]
              rfl
            refine pure_ (i := 4) (N := some 35) (v := ?_) (a' := ?_) #[true, true, true, false, true, false, false, false, false, false, false, false, false, false, false] rfl rfl (any_of HT_.out (by kernel_rfl)) (fun _ _ _ h => h) (Or.inl ⟨by rfl, ?_⟩) ?_ ?_
            rotate_left
            · intro w'
              go_simp
              with_reducible rfl
            rotate_left
            · simp only [Act.put, List.setIfInBounds_toArray, List.set_cons_zero, List.set_cons_succ]
              rfl
            refine pure_ (i := 5) (N := some 36) (v := ?_) (a' := ?_) #[true, true, true, false, true, true, false, false, false, false, false, false, false, false, false] rfl rfl (any_of HT_.out (by kernel_rfl)) (fun _ _ _ h => h) (Or.inl ⟨by rfl, ?_⟩) ?_ ?_
            rotate_left
            · intro w'
              go_simp
              with_reducible rfl
            rotate_left
            · simp only [Act.put, List.setIfInBounds_toArray, List.set_cons_zero, List.set_cons_succ]
              rfl
            refine pure_ (i := 6) (N := some 37) (v := ?_) (a' := ?_) #[true, true, true, false, true, true, true, false, false, false, false, false, false, false, false] rfl rfl (any_of HT_.out (by kernel_rfl)) (fun _ _ _ h => h) (Or.inl ⟨by rfl, ?_⟩) ?_ ?_
            rotate_left
            · intro w'
              go_simp
              with_reducible rfl
            rotate_left
            · simp only [Act.put, List.setIfInBounds_toArray, List.set_cons_zero, List.set_cons_succ]
              rfl
            refine take_ (i := 3) (N := some 34) (v := ?_) (a' := ?_) #[true, true, true, true, true, true, true, false, false, false, false, false, false, false, false] rfl rfl (take_ofW HT_.out HW_.out (by kernel_rfl)) (fun _ _ _ h => h) (Or.inl ⟨by rfl, ?_⟩) hHeld ?_ ?_
            rotate_left
            · intro w' hkt
              obtain ⟨s0, s1, s2, s3⟩ := RC.out w' hkt
              go_simp
              with_reducible rfl
            rotate_left
            · simp only [Act.put, List.setIfInBounds_toArray, List.set_cons_zero, List.set_cons_succ]
              rfl
            refine take_ (i := 7) (N := some 38) (v := ?_) (a' := ?_) #[true, true, true, true, true, true, true, true, false, false, false, false, false, false, false] rfl rfl (take_ofW HT_.out HW_.out (by kernel_rfl)) (fun _ _ _ h => h) (Or.inl ⟨by rfl, ?_⟩) hHeld ?_ ?_
            rotate_left
            · intro w' hkt
              obtain ⟨s0, s1, s2, s3⟩ := RC.out w' hkt
              go_simp
              with_reducible rfl
            rotate_left
            · simp only [Act.put, List.setIfInBounds_toArray, List.set_cons_zero, List.set_cons_succ]
              rfl
            refine two_ (i := 8) (j := 12) (Ni := some 39) (Nj := some 9) #[true, true, true, true, true, true, true, true, true, false, false, false, false, false, false] #[true, true, true, true, true, true, true, true, false, false, false, false, true, false, false] rfl rfl rfl rfl (two_of HT_.out (by kernel_rfl)) (by decide) (by decide) (fun K hK => ?_) (fun K hK => ?_)
            · refine goes_ Try.func53 (by kernel_rfl) rfl #[.agg #[.int .i64 a, .int .i64 bb], .agg #[.int .i64 cc, .int .i64 d]] (by rfl) rfl rfl (by (try simp only [List.map_toArray, List.map_cons, List.map_nil]); first | done | rfl) ?_
              refine (SUB.out wd).mono ?_
              rintro e w8 ⟨x, y, hxy, rfl, hn8⟩
              refine ⟨_, rfl, ?_⟩
              refine hK.out _ _ (hHeld.trans hn8) (fun hHeld => ?_)
              clear hK K
              refine norm_ (a' := ?_) ?_ ?_
              rotate_left
              · show Act.put _ (some 39) _ = _
                simp only [Act.put, List.setIfInBounds_toArray, List.set_cons_zero, List.set_cons_succ]
                rfl
              have HXY := Lib.hid hxy
              clear hxy hn8
              refine pure_ (i := 9) (N := some 30) (v := ?_) (a' := ?_) #[true, true, true, true, true, true, true, true, true, true, false, false, false, false, false] rfl rfl (any_of HT_.out (by kernel_rfl)) (fun _ _ _ h => h) (Or.inl ⟨by rfl, ?_⟩) ?_ ?_
              rotate_left
              · intro w'
                go_simp
                with_reducible rfl
              rotate_left
              · simp only [Act.put, List.setIfInBounds_toArray, List.set_cons_zero, List.set_cons_succ]
                rfl
              refine pure_ (i := 10) (N := some 40) (v := ?_) (a' := ?_) #[true, true, true, true, true, true, true, true, true, true, true, false, false, false, false] rfl rfl (any_of HT_.out (by kernel_rfl)) (fun _ _ _ h => h) (Or.inl ⟨by rfl, ?_⟩) ?_ ?_
              rotate_left
              · intro w'
                go_simp
                with_reducible rfl
              rotate_left
              · simp only [Act.put, List.setIfInBounds_toArray, List.set_cons_zero, List.set_cons_succ]
                rfl
              refine pure_ (i := 11) (N := some 41) (v := ?_) (a' := ?_) #[true, true, true, true, true, true, true, true, true, true, true, true, false, false, false] rfl rfl (any_of HT_.out (by kernel_rfl)) (fun _ _ _ h => h) (Or.inl ⟨by rfl, ?_⟩) ?_ ?_
              rotate_left
              · intro w'
                go_simp
                with_reducible rfl
              rotate_left
              · simp only [Act.put, List.setIfInBounds_toArray, List.set_cons_zero, List.set_cons_succ]
                rfl
              refine one_ (i := 12) (N := some 9) #[true, true, true, true, true, true, true, true, true, true, true, true, true, false, false] rfl rfl (one_of HT_.out (by kernel_rfl)) (by decide) (fun K hK => ?_)
              refine gives_ (v := .pointer (some ⟨w8.heap.size, 0, none⟩)) (w1 := w8.alloc (.cells #[.int .i64 0, .int .i64 0] 75)) (by rfl) rfl (by go_simp) ?_
              have HRB : Hid (Row (w8.alloc (.cells #[.int .i64 0, .int .i64 0] 75)) w8.heap.size 75 [.int .i64 0, .int .i64 0]) := Lib.hid (Row.new w8 75 _)
              have HGB : Hid (wr.heap.size ≤ w8.heap.size) := Lib.hid hHeld.size
              refine hK.out _ _ (hHeld.alloc _) (fun hHeld => ?_)
              clear hK K
              refine norm_ (a' := ?_) ?_ ?_
              rotate_left
              · show Act.put _ (some 9) _ = _
                simp only [Act.put, List.setIfInBounds_toArray, List.set_cons_zero, List.set_cons_succ]
                rfl
              generalize w8.alloc (.cells #[.int .i64 0, .int .i64 0] 75) = wB at *
              generalize w8.heap.size = gB at *
              refine one_ (i := 13) (N := none) #[true, true, true, true, true, true, true, true, true, true, true, true, true, true, false] rfl rfl (one_of HT_.out (by kernel_rfl)) (by decide) (fun K hK => ?_)
              have y0 : wB.cell? ⟨gB, 0, none⟩ = some (.int .i64 0) := HRB.out.cell 0
              have y1 : wB.cell? ⟨gB, 1, none⟩ = some (.int .i64 0) := HRB.out.cell 1
              have z0 := HRB.out.free 0
              have z1 := HRB.out.free 1
              refine skip_ (w1 := (wB.setCell ⟨gB, 0, none⟩ (.int .i64 x)).setCell ⟨gB, 1, none⟩ (.int .i64 y)) (by rfl) rfl (by go_simp) ?_
              have HRC := Lib.hid ((HRB.out.set 0 (.int .i64 x)).set 1 (.int .i64 y))
              have hnC : New wr ((wB.setCell ⟨gB, 0, none⟩ (.int .i64 x)).setCell ⟨gB, 1, none⟩ (.int .i64 y)) := ((Fr.set hHeld (p := ⟨gB, 0, none⟩) (.inr HGB.out) _).set (p := ⟨gB, 1, none⟩) (.inr HGB.out) _)
              clear y0 y1 z0 z1 HRB
              generalize (wB.setCell ⟨gB, 0, none⟩ (.int .i64 x)).setCell ⟨gB, 1, none⟩ (.int .i64 y) = wC at *
              refine hK.out _ _ hnC (fun hHeld => ?_)
              clear hK K
              refine pure_ (i := 14) (N := some 10) (v := ?_) (a' := ?_) #[true, true, true, true, true, true, true, true, true, true, true, true, true, true, true] rfl rfl (any_of HT_.out (by kernel_rfl)) (fun _ _ _ h => h) (Or.inl ⟨by rfl, ?_⟩) ?_ ?_
              rotate_left
              · intro w'
                go_simp
                with_reducible rfl
              rotate_left
              · simp only [Act.put, List.setIfInBounds_toArray, List.set_cons_zero, List.set_cons_succ]
                rfl
              refine done_ (done_of HT_.out (by kernel_rfl)) ?_
              have HNC := Lib.hid hnC
              clear hnC hHeld HWD
              go_wp2_with fail
              go_meet
              case rel => exact ⟨gB, x, y, rfl, rfl, Lib.hid ⟨HXY.out, HRC.out, HNC.out⟩⟩
            · refine gives_ (v := .pointer (some ⟨wd.heap.size, 0, none⟩)) (w1 := wd.alloc (.cells #[.int .i64 0, .int .i64 0] 75)) (by rfl) rfl (by go_simp) ?_
              have HRB0 : Hid (Row (wd.alloc (.cells #[.int .i64 0, .int .i64 0] 75)) wd.heap.size 75 [.int .i64 0, .int .i64 0]) := Lib.hid (Row.new wd 75 _)
              have HGB : Hid (wr.heap.size ≤ wd.heap.size) := Lib.hid hHeld.size
              refine hK.out _ _ (hHeld.alloc _) (fun hHeld => ?_)
              clear hK K
              refine norm_ (a' := ?_) ?_ ?_
              rotate_left
              · show Act.put _ (some 9) _ = _
                simp only [Act.put, List.setIfInBounds_toArray, List.set_cons_zero, List.set_cons_succ]
                rfl
              generalize wd.alloc (.cells #[.int .i64 0, .int .i64 0] 75) = wA at *
              generalize wd.heap.size = gB at *
              refine one_ (i := 8) (N := some 39) #[true, true, true, true, true, true, true, true, true, false, false, false, true, false, false] rfl rfl (one_of HT_.out (by kernel_rfl)) (by decide) (fun K hK => ?_)
              refine goes_ Try.func53 (by kernel_rfl) rfl #[.agg #[.int .i64 a, .int .i64 bb], .agg #[.int .i64 cc, .int .i64 d]] (by rfl) rfl rfl (by (try simp only [List.map_toArray, List.map_cons, List.map_nil]); first | done | rfl) ?_
              refine (SUB.out wA).mono ?_
              rintro e wB ⟨x, y, hxy, rfl, hn8⟩
              refine ⟨_, rfl, ?_⟩
              refine hK.out _ _ (hHeld.trans hn8) (fun hHeld => ?_)
              clear hK K
              refine norm_ (a' := ?_) ?_ ?_
              rotate_left
              · show Act.put _ (some 39) _ = _
                simp only [Act.put, List.setIfInBounds_toArray, List.set_cons_zero, List.set_cons_succ]
                rfl
              have HXY := Lib.hid hxy
              have HRB := Lib.hid (hn8.row HRB0.out)
              clear hxy hn8 HRB0
              refine pure_ (i := 9) (N := some 30) (v := ?_) (a' := ?_) #[true, true, true, true, true, true, true, true, true, true, false, false, true, false, false] rfl rfl (any_of HT_.out (by kernel_rfl)) (fun _ _ _ h => h) (Or.inl ⟨by rfl, ?_⟩) ?_ ?_
              rotate_left
              · intro w'
                go_simp
                with_reducible rfl
              rotate_left
              · simp only [Act.put, List.setIfInBounds_toArray, List.set_cons_zero, List.set_cons_succ]
                rfl
              refine pure_ (i := 10) (N := some 40) (v := ?_) (a' := ?_) #[true, true, true, true, true, true, true, true, true, true, true, false, true, false, false] rfl rfl (any_of HT_.out (by kernel_rfl)) (fun _ _ _ h => h) (Or.inl ⟨by rfl, ?_⟩) ?_ ?_
              rotate_left
              · intro w'
                go_simp
                with_reducible rfl
              rotate_left
              · simp only [Act.put, List.setIfInBounds_toArray, List.set_cons_zero, List.set_cons_succ]
                rfl
              refine pure_ (i := 11) (N := some 41) (v := ?_) (a' := ?_) #[true, true, true, true, true, true, true, true, true, true, true, true, true, false, false] rfl rfl (any_of HT_.out (by kernel_rfl)) (fun _ _ _ h => h) (Or.inl ⟨by rfl, ?_⟩) ?_ ?_
              rotate_left
              · intro w'
                go_simp
                with_reducible rfl
              rotate_left
              · simp only [Act.put, List.setIfInBounds_toArray, List.set_cons_zero, List.set_cons_succ]
                rfl
              refine one_ (i := 13) (N := none) #[true, true, true, true, true, true, true, true, true, true, true, true, true, true, false] rfl rfl (one_of HT_.out (by kernel_rfl)) (by decide) (fun K hK => ?_)
              have y0 : wB.cell? ⟨gB, 0, none⟩ = some (.int .i64 0) := HRB.out.cell 0
              have y1 : wB.cell? ⟨gB, 1, none⟩ = some (.int .i64 0) := HRB.out.cell 1
              have z0 := HRB.out.free 0
              have z1 := HRB.out.free 1
              refine skip_ (w1 := (wB.setCell ⟨gB, 0, none⟩ (.int .i64 x)).setCell ⟨gB, 1, none⟩ (.int .i64 y)) (by rfl) rfl (by go_simp) ?_
              have HRC := Lib.hid ((HRB.out.set 0 (.int .i64 x)).set 1 (.int .i64 y))
              have hnC : New wr ((wB.setCell ⟨gB, 0, none⟩ (.int .i64 x)).setCell ⟨gB, 1, none⟩ (.int .i64 y)) := ((Fr.set hHeld (p := ⟨gB, 0, none⟩) (.inr HGB.out) _).set (p := ⟨gB, 1, none⟩) (.inr HGB.out) _)
              clear y0 y1 z0 z1 HRB
              generalize (wB.setCell ⟨gB, 0, none⟩ (.int .i64 x)).setCell ⟨gB, 1, none⟩ (.int .i64 y) = wC at *
              refine hK.out _ _ hnC (fun hHeld => ?_)
              clear hK K
              refine pure_ (i := 14) (N := some 10) (v := ?_) (a' := ?_) #[true, true, true, true, true, true, true, true, true, true, true, true, true, true, true] rfl rfl (any_of HT_.out (by kernel_rfl)) (fun _ _ _ h => h) (Or.inl ⟨by rfl, ?_⟩) ?_ ?_
              rotate_left
              · intro w'
                go_simp
                with_reducible rfl
              rotate_left
              · simp only [Act.put, List.setIfInBounds_toArray, List.set_cons_zero, List.set_cons_succ]
                rfl
              refine done_ (done_of HT_.out (by kernel_rfl)) ?_
              have HNC := Lib.hid hnC
              clear hnC hHeld HWD
              go_wp2_with fail
              go_meet
              case rel => exact ⟨gB, x, y, rfl, rfl, Lib.hid ⟨HXY.out, HRC.out, HNC.out⟩⟩
          case rest =>
            obtain ⟨g, x, y, rfl, rfl, HX⟩ := hcut
            have KE : Hid (∀ W, Calls Try.prog 54 #[.int .i32 cij, .agg #[.int .i64 x, .int .i64 y]] W fun e w' => e = .returned (.bool true) ∧ New W w') := Lib.hid fun W => by
              have h1 := keeps_any cij x y (by rcases KIJ.out with e | e <;> omega) (by rcases KIJ.out with e | e <;> omega) HX.out.1.2.1 HX.out.1.2.2 W
              rwa [(keepsB_iff HX.out.1.1).2 (KIJ.out.imp (fun e => e) (fun e => e.2))] at h1
            have x0 := HX.out.2.1.cell 0
            have x1 := HX.out.2.1.cell 1
            simp only [List.getElem?_cons_zero, List.getElem?_cons_succ] at x0 x1
            have HNW := Lib.hid (HN.out.trans HX.out.2.2)
            clear HX HN RC SUB KIJ
            go_wp2_with fail
            refine (KE.out _).mono ?_
            rintro e w9 ⟨rfl, hn9⟩
            have HN9 := Lib.hid (HNW.out.trans hn9)
            clear hn9 HNW KE x0 x1
            go_wp2_with fail
            exact ⟨⟨j + 1, HLJ.out, by go_num, HN9⟩, by have := HLJ.out; simp [intOf] <;> omega⟩
        · have hjz : ¬ (j : Int) < m := by omega
          go_wp2_with fail
          exact ⟨⟨i + 1, HL.out, by go_num, HN⟩, by have := HL.out; simp [intOf] <;> omega⟩
    · have hltz : ¬ (i : Int) < m := by omega
      go_wp2_with fail
      go_ret
      exact ⟨rfl, HN.out⟩
end Go.Proofs.Ytapfihlgemejiaa
