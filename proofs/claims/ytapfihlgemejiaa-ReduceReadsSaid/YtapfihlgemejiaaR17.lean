/- ReduceClasses. -/
import Derived.Test.YtapfihlgemejiaaR16
import Derived.Test.YtapfihlgemejiaaP4
import Derived.Test.YtapfihlgemejiaaC0
namespace Go.Proofs.Ytapfihlgemejiaa
open Go.RowKit Go.Proofs.YtapfihlgemejiaaW.PrintLast
def r15aT : Bool × List (List Nat × List Nat) := (true, [([], []), ([], []), ([], []), ([2], [2]), ([1, 3], [1, 3]), ([], []), ([4, 5], [4, 5]), ([0, 6], [0, 6]), ([7], [7]), ([], []), ([], []), ([], []), ([11], [11]), ([10, 12], [10, 12]), ([], []), ([13, 14], [13, 14]), ([9, 15], [9, 15]), ([16], [16]), ([8, 0, 1, 2, 3, 4, 5, 6, 7, 8], [8]), ([17, 18, 0, 1, 2, 3, 4, 5, 6, 7, 8, 9, 10, 11, 12, 13, 14, 15, 16, 17, 18], [17])])
def r15aB : List Nat := [0, 0, 0, 4, 14, 0, 62, 127, 255, 0, 0, 0, 2048, 7168, 0, 31744, 65024, 130560, 511, 524287]
theorem r15aTab : rtab .any (opsOf Try.f15 29) = r15aT := by kernel_rfl
theorem r15aBits : waitsOk r15aT.2 r15aB = true := by kernel_rfl
def r15bT : Bool × List (List Nat × List Nat) := (true, [([], []), ([], []), ([], []), ([1, 2], [1, 2]), ([3], [3]), ([], []), ([], []), ([5, 6], [5, 6]), ([7], [7]), ([4, 8], [4, 8]), ([0, 9], [0, 9])])
def r15bB : List Nat := [0, 0, 0, 6, 14, 0, 0, 96, 224, 510, 1023]
theorem r15bTab : rtab .any (opsOf Try.f15 31) = r15bT := by kernel_rfl
theorem r15bBits : waitsOk r15bT.2 r15bB = true := by kernel_rfl
theorem ofL_row0 (n : Nat) (hn : n ≤ 8) (cells : List Int) (L : List Int) (h : ofL n cells = some L) : ∀ j, j ≤ n → gt L j ≤ 1 := by
  have := lpO_inv (fun L => L.length = 81 ∧ ∀ j, j ≤ n → gt L j ≤ 1) _ cells.length _ L ⟨openL_length n, fun j hj => by
    rw [show j = 9 * 0 + j by omega, open_form n hn 0 j (by omega), if_pos ⟨by omega, hj⟩, if_pos (.inr rfl)]; omega⟩ (fun i a b _ ha hb => by
    split at hb
    · cases hb
      refine ⟨by rw [keepL_length, ha.1], fun j hj => ?_⟩
      unfold keepL
      split
      · exact ha.2 j hj
      · by_cases hlt : 9 * (i / (n + 1)) + i % (n + 1) < a.length
        · rw [gt_st _ _ _ _ hlt]
          split
          · rename_i e
            have := mn_le (gt a (9 * (i / (n + 1)) + i % (n + 1))) (gt cells i)
            have h2 := ha.2 j hj
            rw [e] at h2; omega
          · exact ha.2 j hj
        · have : st a (9 * (i / (n + 1)) + i % (n + 1)) (mn (gt a (9 * (i / (n + 1)) + i % (n + 1))) (gt cells i)) = a := by unfold st; exact List.set_eq_of_length_le (by omega)
          rw [this]; exact ha.2 j hj
    · cases hb) h
  exact this.2
theorem ofZ_good {n : Int} {cells : List Int} {Z : List Int} (h : ofZ n cells = .ok Z) : ∃ k : Nat, n = k ∧ k ≤ 8 ∧ cells.length = (k + 1) * (k + 1) ∧ ZGood ⟨k, Z⟩ ∧ Z.length = 81 := by
  unfold ofZ at h
  split at h
  · cases h
  · rename_i hf
    have hf : fewB n = true := by simpa using hf
    unfold fewB at hf
    simp at hf
    split at h
    · cases h
    · rename_i hl
      obtain ⟨k, rfl⟩ := Int.eq_ofNat_of_zero_le hf.1
      have hk : k ≤ 8 := by omega
      cases hq : ofL k cells with
      | none => rw [Int.toNat_natCast, hq] at h; cases h
      | some L =>
        rw [Int.toNat_natCast, hq] at h
        have h : zoneOf k L = .ok Z := h
        have hs := ofL_start k hk cells cells.length L hq
        have hz := zoneOf_from hk hs (ofL_row0 k hk cells L hq) h
        refine ⟨k, rfl, hk, ?_, hz.good hk, hz.len⟩
        have : (cells.length : Int) = ((k : Int) + 1) * ((k : Int) + 1) := by simpa using hl
        exact_mod_cast this
theorem ofZ_err {n : Int} {cells : List Int} {c : Int} (h : ofZ n cells = .err c) : c = 12 ∨ c = 6 ∨ c = 7 ∨ c = 10 := by
  unfold ofZ at h
  split at h
  · injection h with h; exact .inl h.symm
  · split at h
    · injection h with h; exact .inr (.inl h.symm)
    · split at h
      · injection h with h; exact .inr (.inr (.inl h.symm))
      · unfold zoneOf at h
        split at h
        · cases h
        · split at h
          · injection h with h; exact .inr (.inr (.inr h.symm))
          · cases h
theorem tmod2 (a : Int) : (a.tmod 2 != 0) = decide (a % 2 = 1) := by
  have h : a.tmod 2 = 0 ↔ 2 ∣ a := (Int.dvd_iff_tmod_eq_zero).symm
  by_cases h1 : a % 2 = 1
  · rw [decide_eq_true h1]
    have : ¬ a.tmod 2 = 0 := by rw [h]; omega
    simpa using this
  · rw [decide_eq_false h1]
    have : a.tmod 2 = 0 := by rw [h]; omega
    simp [this]
set_option maxRecDepth 100000 in
set_option maxHeartbeats 8000000 in
theorem reduceClasses_main (n : Nat) (Z : List Int) (hz : ZCl n Z) (v : Value) (w : World) (hof : Calls Try.prog 26 #[.int .i64 n, v] w fun e w' => ZRet w n (.ok Z) e w' ∧ New w w') :
    Calls Try.prog 15 #[.int .i64 n, v] w fun e w' => e = .returned (.bool true) ∧ Below w.heap.size w w' := by
  have HOF := Lib.hid hof
  have LV := Lib.hid live25_any
  have hn8 := hz.dim
  have HZ := Lib.hid hz
  have HLEN := Lib.hid hz.len
  obtain ⟨sq, hsq⟩ : ∃ sq, (n + 1) * (n + 1) = sq := ⟨_, rfl⟩
  have hsq81 : sq ≤ 81 := by rw [← hsq]; exact Nat.mul_le_mul (show n + 1 ≤ 9 by omega) (show n + 1 ≤ 9 by omega)
  have hmul : ((n : Int) + 1) * ((n : Int) + 1) = (sq : Int) := by rw [← hsq]; push_cast; rfl
  have HSQ := Lib.hid hsq
  clear hof hz hsq
  go_enter Try.func15, Try.ntmps15
  go_wp2_with fail
  refine HOF.out.mono ?_
  rintro e w1 ⟨hzr, hn1⟩
  obtain ⟨g, rfl, hg, hr⟩ := hzr
  have hza : ZoneAt w1 g ⟨n, Z⟩ := ⟨hr, HLEN.out, hn8⟩
  have HZA := Lib.hid hza
  have N1 := Lib.hid hn1
  have CL := Lib.hid (classes_any g ⟨n, Z⟩ w1 hza HZ.out.not_empty HZ.out.cells32)
  clear hza hr hn1 HOF
  go_wp2_with fail
  refine CL.out.mono ?_
  rintro e w2 ⟨vC, rfl, hlol, hn2⟩
  have EM := Lib.hid (empty_any g ⟨n, Z⟩ w2 (HZA.out.new hn2))
  rw [show emptyB (Zn.mk n Z).Z = false from HZ.out.not_empty] at EM
  have CE := Lib.hid (cells_any g ⟨n, Z⟩ w2 (HZA.out.new hn2))
  obtain ⟨m, hm⟩ : ∃ m, (classesL Z n).length = m := ⟨_, rfl⟩
  obtain ⟨A, cap, hvC⟩ := hlol.form
  rw [show (classesL (Zn.mk n Z).Z (Zn.mk n Z).n).length = m from hm] at hvC
  subst hvC
  have HLOL := Lib.hid hlol
  have N2 := Lib.hid (N1.out.trans hn2)
  have HM := Lib.hid hm
  have hm9 : m ≤ 9 := by rw [← hm]; exact (classesL_ok Z n hn8).1
  have ha2 := HZA.out.new hn2
  have HA2 := Lib.hid ha2
  clear hlol hn2 hm CL ha2
  go_wp2_with fail
  refine EM.out.mono ?_
  rintro e w' ⟨rfl, rfl⟩
  go_wp2_with fail
  refine CE.out.mono ?_
  rintro e w3 ⟨vc, rfl, hoc, hn3⟩
  obtain ⟨Ac, cc, hvc⟩ := own_form hoc
  rw [cellsOf_length] at hvc hoc
  rw [show ((Zn.mk n Z).n + 1) * ((Zn.mk n Z).n + 1) = sq from HSQ.out] at hvc hoc
  subst hvc
  clear hoc CE EM
  obtain ⟨i0, hi0, hz0, hz1, hz2⟩ := info_parts infoOf3
  obtain ⟨w4, hmk, hom, hgm⟩ := run_make_full (P := Try.prog) (w := w3) w3.heap.size 25 3 i0 (.int .i64 0) 1 Try.underlying25 hi0 hz0 hz1 .i64 .i64 (n + 1) (by rw [hz2]; omega) (by unfold maxLen; omega) (Nat.le_refl _)
  rw [show ((n + 1 : Nat) : Int) = (n : Int) + 1 by push_cast; rfl] at hmk
  have hom2 : w4.ownsRow w3.heap.size 3 1 (.slice (some ⟨w3.heap.size, 0, none⟩) (n + 1) (n + 1)) (n + 1) (nats (List.replicate (n + 1) 0)) := by
    have e : nats (List.replicate (n + 1) 0) = (madeCells (Value.int .i64 0).cells ((n + 1) * 1)).toList := by
      rw [Nat.mul_one]
      show _ = (madeCells #[.int .i64 0] (n + 1)).toList
      rw [toList_madeCells_one]
      simp [nats]
    rw [e]; exact hom
  have hn4 : New w3 w4 := new_of_grown hgm (fun k hk => by cases hk)
  have HN4 := Lib.hid hn4
  have HN3 := Lib.hid (N2.out.trans hn3)
  have HOM := Lib.hid hom2
  have HLOL3 := Lib.hid (HLOL.out.new hn3)
  have HA3 := Lib.hid (HA2.out.new hn3)
  obtain ⟨gM, hgM⟩ : ∃ gM, w3.heap.size = gM := ⟨_, rfl⟩
  have HGM := Lib.hid hgM
  rw [hgM] at hmk
  have HOM := Lib.hid (hgM ▸ HOM.out)
  rename_i HOM0
  clear hom hgm hom2 hn3 hn4 HLOL HA2 N2 N1 HZA HOM0 hz0 hz1 hz2 hi0 hgM
  go_wp2_with fail
  clear hmk
  go_loopw [9, 10] (fun vc vi wr => ∃ (i cnt : Nat), i ≤ m ∧ vi = .int .i64 i ∧ vc = .int .i64 cnt ∧ cnt ≤ 9 * i ∧ ∃ M : List Nat, Hid (Mk n Z i 0 M cnt) ∧ Hid (wr.ownsRow gM 3 1 (.slice (some ⟨gM, 0, none⟩) (n + 1) (n + 1)) (n + 1) (nats M)) ∧ Hid (New w3 wr))
    (fun _ vi _ => m - (intOf vi).toNat)
  case atStart => exact ⟨0, 0, Nat.zero_le _, by go_num, by go_num, by omega, _, Mk.start, HOM.out, HN4.out⟩
  case round =>
    rename World => wo
    obtain ⟨i, cnt, hi, rfl, rfl, hcnt, M, HMK, HOR, HFR⟩ := hrel
    by_cases hlt : i < m
    · have hltz : (i : Int) < m := by omega
      have him : i < (classesL Z n).length := by rw [HM.out]; exact hlt
      have hcl9 : (clN Z n i).length ≤ 9 := ((classesL_ok Z n hn8).2 i him).2.1
      go_wp2_with fail
      go_loopw [9, 11] (fun vc vk wr => ∃ (k cnt : Nat), k ≤ (clN Z n i).length ∧ vk = .int .i64 k ∧ vc = .int .i64 cnt ∧ cnt ≤ 9 * i + k ∧ ∃ M : List Nat, Hid (Mk n Z i k M cnt) ∧ Hid (wr.ownsRow gM 3 1 (.slice (some ⟨gM, 0, none⟩) (n + 1) (n + 1)) (n + 1) (nats M)) ∧ Hid (New w3 wr))
        (fun _ vk _ => (clN Z n i).length - (intOf vk).toNat)
      case atStart => exact ⟨0, cnt, Nat.zero_le _, by go_num, rfl, by omega, M, HMK, HOR, HFR⟩
      case round =>
        obtain ⟨k, cnt, hk, rfl, rfl, hcnt, M, HMK, HOR, HFR⟩ := hrel
        have hl0 := HLOL3.out.new HFR.out
        rw [← HM.out] at hl0
        obtain ⟨vs, ⟨aC, offC, hA, hreadC⟩, hvs⟩ := hl0.reads (by omega)
        subst hA
        have s0 := hreadC wr (New.refl wr) i him
        have hown := hvs i him
        have hown : wr.ownsRow w1.heap.size 3 1 (vs i) (clN Z n i).length (nats (clN Z n i)) := hown
        obtain ⟨Ai, ci, hvi⟩ := own_form hown
        rw [hvi] at s0 hown
        by_cases hkl : k < (clN Z n i).length
        · have hkz : (k : Int) < ((clN Z n i).length : Int) := by omega
          obtain ⟨ai, offi, hAi, hri⟩ := own_reads hown (by omega)
          subst hAi
          have s1 := hri wr (New.refl wr) k hkl
          obtain ⟨hxn, hM0⟩ := HZ.out.mk_zero HMK.out him hkl
          have hput := HZ.out.mk_put HMK.out him hkl
          obtain ⟨g', hg', _, _, hcM, hfM⟩ := own_cell HOR.out (by rw [nats_length, HMK.out.len]; omega)
          cases hg'
          have s2 := hcM _ _ (nats_get M ((clN Z n i).getD k 0) (by rw [HMK.out.len]; omega))
          rw [hM0] at s2
          have hset := own_set HOR.out ((clN Z n i).getD k 0) (.int .i64 ((i + 1 : Nat)))
          rw [nats_set] at hset
          have hup : ∀ k', k = k' + 1 → (clN Z n i).getD k' 0 < (clN Z n i).getD k 0 := fun k' e => by
            have := List.pairwise_iff_getElem.1 (HZ.out.class_of (clN_mem him)).2.2.1 k' k (by omega) hkl (by omega)
            rw [List.getD_eq_getElem?_getD, List.getD_eq_getElem?_getD, List.getElem?_eq_getElem (by omega), List.getElem?_eq_getElem hkl]
            exact this
          have hprev : ∀ k', k = k' + 1 → wr.cell? ⟨ai, offi + k', none⟩ = some (.int .i64 ((clN Z n i).getD k' 0 : Nat)) := fun k' e => hri wr (New.refl wr) k' (by omega)
          have hhead : ∀ i', i = i' + 1 → k = 0 → ∃ (a' off' l' c' : Nat), wr.cell? ⟨aC, offC + i', none⟩ = some (.slice (some ⟨a', off', none⟩) l' c') ∧ 0 < l' ∧ wr.cell? ⟨a', off', none⟩ = some (.int .i64 (hd (clN Z n i') : Nat)) ∧ hd (clN Z n i') < (clN Z n i).getD k 0 := fun i' e e0 => by
            have hi' : i' < (classesL Z n).length := by omega
            have h1 := hreadC wr (New.refl wr) i' hi'
            have h2 : wr.ownsRow w1.heap.size 3 1 (vs i') (clN Z n i').length (nats (clN Z n i')) := hvs i' hi'
            obtain ⟨A', c', hv'⟩ := own_form h2
            rw [hv'] at h1 h2
            have hp : 0 < (clN Z n i').length := List.length_pos_iff.2 (fun e => by
              have := (HZ.out.class_of (clN_mem hi')).2.2.2.2
              rw [e] at this; cases this)
            obtain ⟨a', off', hA', hr'⟩ := own_reads h2 hp
            subst hA'
            refine ⟨a', off', _, c', h1, hp, hr' wr (New.refl wr) 0 hp, ?_⟩
            have := HZ.out.clN_lt (show i' < i by omega) him
            subst e0
            exact this
          have hfx := hfM ((clN Z n i).getD k 0)
          generalize hxg : (clN Z n i).getD k 0 = x at *
          have hlx : 0 < (clN Z n i).length := by omega
          have HPUT := Lib.hid hput
          have HSET := Lib.hid hset
          have hx0 : ¬ (x : Int) < 0 := by omega
          have hxz : ¬ (n : Int) < (x : Int) := by omega
          have hxz2 : (x : Int) < (n : Int) + 1 := by omega
          have hsum : ((i : Int) + 1) = ((i + 1 : Nat) : Int) := by push_cast; rfl
          have HFX := Lib.hid hsum
          clear hreadC hvs hown hri hput hset hcM hfM hvi hl0 hxg hM0 hsum
          cases k with
          | zero =>
            clear hup hprev
            cases i with
            | zero =>
              clear hhead
              rw [Nat.add_zero] at s0 s1
              go_wp2_with fail
              exact ⟨⟨1, cnt + 1, by omega, by go_num, by go_num, by omega, _, HPUT.out, (show World.ownsRow _ _ _ _ _ _ _ by exact HSET.out), Fr.set HFR.out (p := ⟨gM, x, none⟩) (.inr (by show w3.heap.size ≤ gM; rw [HGM.out]; exact Nat.le_refl _)) _⟩, by simp [intOf] <;> omega⟩
            | succ i' =>
              obtain ⟨a', off', l', c', t0, t1, t2, t3⟩ := hhead i' rfl rfl
              have t3' : ¬ ((hd (clN Z n i') : Nat) : Int) ≥ (x : Int) := by omega
              have hi'z : (i' : Int) < (m : Int) := by omega
              have hwi : IntKind.i64.wrap (i' : Int) = (i' : Int) := by rw [IntKind.wrap_i64]; omega
              rw [Nat.add_zero] at s1
              clear hhead
              go_wp2_with fail
              exact ⟨⟨1, cnt + 1, by omega, by go_num, by go_num, by omega, _, HPUT.out, (show World.ownsRow _ _ _ _ _ _ _ by have h1 := HSET.out; rw [show ((i' + 1 + 1 : Nat) : Int) = (i' : Int) + 1 + 1 by push_cast; rfl] at h1; exact h1), Fr.set HFR.out (p := ⟨gM, x, none⟩) (.inr (by show w3.heap.size ≤ gM; rw [HGM.out]; exact Nat.le_refl _)) _⟩, by simp [intOf] <;> omega⟩
          | succ k' =>
            have q0 := hprev k' rfl
            have q1 := hup k' rfl
            have q1' : ¬ (((clN Z n i).getD k' 0 : Nat) : Int) ≥ (x : Int) := by omega
            have hk'z : (k' : Int) < ((clN Z n i).length : Int) := by omega
            have hwk : IntKind.i64.wrap (k' : Int) = (k' : Int) := by rw [IntKind.wrap_i64]; omega
            clear hup hprev hhead
            go_wp2_with fail
            all_goals exact ⟨⟨k' + 1 + 1, cnt + 1, by omega, by go_num, by go_num, by omega, _, HPUT.out, (show World.ownsRow _ _ _ _ _ _ _ by have h1 := HSET.out; rw [show ((i + 1 : Nat) : Int) = (i : Int) + 1 by push_cast; rfl] at h1; exact h1), Fr.set HFR.out (p := ⟨gM, x, none⟩) (.inr (by show w3.heap.size ≤ gM; rw [HGM.out]; exact Nat.le_refl _)) _⟩, by simp [intOf] <;> omega⟩
        · have hkz : ¬ (k : Int) < ((clN Z n i).length : Int) := by omega
          have hke : k = (clN Z n i).length := by omega
          have h1 := HMK.out
          rw [hke] at h1
          have HNX := Lib.hid (h1.next him)
          clear h1 hke hreadC hvs hown hvi hl0
          go_wp2_with fail
          exact ⟨⟨i + 1, cnt, by omega, by go_num, rfl, by omega, M, HNX.out, HOR, HFR⟩, by simp [intOf] <;> omega⟩
    · have hltz : ¬ (i : Int) < m := by omega
      have hei : i = (classesL Z n).length := by rw [HM.out]; omega
      have hmk := HMK.out
      rw [hei] at hmk
      have HSAME := Lib.hid (fun x y (hx : x ≤ n) (hy : y ≤ n) => HZ.out.mk_same hmk hx hy)
      have HCNT := Lib.hid (HZ.out.mk_count hmk)
      have hml := hmk.len
      have HA5 := Lib.hid (HA3.out.new HFR.out)
      have CE := Lib.hid (cells_any g ⟨n, Z⟩ wo HA5.out)
      clear hmk hei
      go_wp2_with fail
      refine CE.out.mono ?_
      rintro e w5 ⟨vc, rfl, hoc, hn5⟩
      obtain ⟨Ac, cc, hvc⟩ := own_form hoc
      have hcl := cellsOf_length ⟨n, Z⟩
      rw [show ((Zn.mk n Z).n + 1) * ((Zn.mk n Z).n + 1) = sq from HSQ.out] at hcl
      rw [hcl] at hvc hoc
      subst hvc
      have hsq0 : 0 < sq := by rw [← HSQ.out]; exact Nat.mul_pos (by omega) (by omega)
      obtain ⟨gC, hgC, _⟩ := own_cell hoc (by rw [ints32_length, hcl]; exact hsq0)
      subst hgC
      have HRD : Hid (∀ W, New w5 W → ∀ i j, i ≤ n → j ≤ n → W.cell? ⟨gC, i * (n + 1) + j, none⟩ = some (.int .i32 (cellN Z i j))) := fun W hW i j hi hj => by
        obtain ⟨g', hg', _, _, hc, _⟩ := own_cell (own_new hoc hW) (by rw [ints32_length, hcl]; exact hsq0)
        cases hg'
        refine hc _ _ ?_
        unfold ints32
        rw [List.getElem?_map]
        have h1 := cellsOf_get ⟨n, Z⟩ (i := i) (j := j) hi hj
        have h1 : (cellsOf ⟨n, Z⟩)[i * (n + 1) + j]? = some (gt Z (9 * i + j)) := h1
        rw [h1]; rfl
      have hor5 := own_new HOR.out hn5
      have HRM : Hid (∀ W, New w5 W → ∀ x, x ≤ n → W.cell? ⟨gM, x, none⟩ = some (.int .i64 (M.getD x 0 : Nat))) := fun W hW x hx => by
        obtain ⟨g', hg', _, _, hc, _⟩ := own_cell (own_new hor5 hW) (by rw [nats_length, hml]; omega)
        cases hg'
        exact hc x _ (nats_get M x (by omega))
      have HN5 := Lib.hid ((HN3.out.trans HFR.out).trans hn5)
      clear hoc hor5 hn5 hcl CE
      go_wp2_with fail
      go_loopw [14] (fun vi wr => ∃ i : Nat, i ≤ n + 1 ∧ vi = .int .i64 i ∧ Hid (New w5 wr)) (fun vi _ => n + 1 - (intOf vi).toNat)
      case atStart => exact ⟨0, Nat.zero_le _, by go_num, New.refl _⟩
      case round =>
        rename World => wi
        obtain ⟨i, hi, rfl, HWI⟩ := hrel
        by_cases hin : i ≤ n
        · have hiz : (i : Int) ≤ n := by omega
          go_wp2_with fail
          go_loopw [15] (fun vi wr => ∃ j : Nat, j ≤ n + 1 ∧ vi = .int .i64 j ∧ Hid (New w5 wr)) (fun vi _ => n + 1 - (intOf vi).toNat)
          case atStart => exact ⟨0, Nat.zero_le _, by go_num, HWI⟩
          case round =>
            obtain ⟨j, hj, rfl, HW5⟩ := hrel
            by_cases hjn : j ≤ n
            · have hjz : (j : Int) ≤ n := by omega
              obtain ⟨p1, hp1⟩ : ∃ p1, i * (n + 1) = p1 := ⟨_, rfl⟩
              obtain ⟨p2, hp2⟩ : ∃ p2, j * (n + 1) = p2 := ⟨_, rfl⟩
              have b1 : p1 + j < sq := by
                have h1 : (i + 1) * (n + 1) ≤ (n + 1) * (n + 1) := Nat.mul_le_mul_right _ (by omega)
                rw [Nat.succ_mul, hp1, HSQ.out] at h1; omega
              have b2 : p2 + i < sq := by
                have h1 : (j + 1) * (n + 1) ≤ (n + 1) * (n + 1) := Nat.mul_le_mul_right _ (by omega)
                rw [Nat.succ_mul, hp2, HSQ.out] at h1; omega
              have m1 : (i : Int) * ((n : Int) + 1) = (p1 : Int) := by rw [← hp1]; push_cast; rfl
              have m2 : (j : Int) * ((n : Int) + 1) = (p2 : Int) := by rw [← hp2]; push_cast; rfl
              obtain ⟨a, ha⟩ : ∃ a, cellN Z i j = a := ⟨_, rfl⟩
              obtain ⟨b, hb⟩ : ∃ b, cellN Z j i = b := ⟨_, rfl⟩
              have hr1 := HRD.out
              have r1 : Hid (∀ W, New w5 W → W.cell? ⟨gC, p1 + j, none⟩ = some (.int .i32 a)) := fun W hW => by
                have := HRD.out W hW i j hin hjn
                rw [hp1, ha] at this; exact this
              have r2 : Hid (∀ W, New w5 W → W.cell? ⟨gC, p2 + i, none⟩ = some (.int .i32 b)) := fun W hW => by
                have := HRD.out W hW j i hjn hin
                rw [hp2, hb] at this; exact this
              have hset := HZ.out.settled_iff hin hjn
              have hsame := HSAME.out i j hin hjn
              rw [ha, hb] at hset
              have ra : a = INF ∨ (-536870912 ≤ a ∧ a ≤ 536870913) := ha ▸ HZ.out.rng i j hin hjn
              have rb : b = INF ∨ (-536870912 ≤ b ∧ b ≤ 536870913) := hb ▸ HZ.out.rng j i hjn hin
              have q1 : Hid (∀ W, New w5 W → W.cell? ⟨gM, i, none⟩ = some (.int .i64 (M.getD i 0 : Nat))) := fun W hW => HRM.out W hW i hin
              have q2 : Hid (∀ W, New w5 W → W.cell? ⟨gM, j, none⟩ = some (.int .i64 (M.getD j 0 : Nat))) := fun W hW => HRM.out W hW j hjn
              have hiff : settledB a b = true ↔ M.getD i 0 = M.getD j 0 := hset.trans hsame.symm
              obtain ⟨sv, hsv⟩ : ∃ sv, settledB a b = sv := ⟨_, rfl⟩
              have HSV := Lib.hid hsv
              rw [hsv] at hiff
              have HIFF := Lib.hid hiff
              have k1 : (p1 : Int) + (j : Int) < (sq : Int) := by omega
              have k2 : (p2 : Int) + (i : Int) < (sq : Int) := by omega
              have k3 : (i : Int) < (n : Int) + 1 := by omega
              have k4 : (j : Int) < (n : Int) + 1 := by omega
              have v1 : IntKind.i64.wrap ((n : Int) + 1) = (n : Int) + 1 := by rw [IntKind.wrap_i64]; omega
              have v2 : IntKind.i64.wrap (p1 : Int) = (p1 : Int) := by rw [IntKind.wrap_i64]; omega
              have v3 : IntKind.i64.wrap (p2 : Int) = (p2 : Int) := by rw [IntKind.wrap_i64]; omega
              have v4 : IntKind.i64.wrap ((p1 : Int) + j) = (p1 : Int) + j := by rw [IntKind.wrap_i64]; omega
              have v5 : IntKind.i64.wrap ((p2 : Int) + i) = (p2 : Int) + i := by rw [IntKind.wrap_i64]; omega
              have v6 : (0 : Int) ≤ (p1 : Int) + j := by omega
              have v7 : (0 : Int) ≤ (p2 : Int) + i := by omega
              have v8 : ((p1 : Int) + j).toNat = p1 + j := by omega
              have v9 : ((p2 : Int) + i).toNat = p2 + i := by omega
              clear hr1 hp1 hp2 ha hb hset hsame hsv hiff
              go_wp2_with fail
              refine start_ (n := 20) (S := fun W => New wr W) (ds := []) #[false, false, false, false, false, false, false, false, false, false, false, false, false, false, false, false, false, false, false, false] (by kernel_rfl) rfl rfl (New.refl wr).drew (fun hHeld => ?_); refine with_tabW r15aTab r15aBits (fun HT_ HW_ => ?_)
              generalize wr.drew = wd at hHeld ⊢
              refine pure_ (i := 0) (N := some 150) (v := ?_) (a' := ?_) #[true, false, false, false, false, false, false, false, false, false, false, false, false, false, false, false, false, false, false, false] rfl rfl (any_of HT_.out (by kernel_rfl)) (fun _ _ _ h => h) (Or.inl ⟨by rfl, ?_⟩) ?_ ?_
              rotate_left
              · intro w'
                go_simp
                with_reducible rfl
              rotate_left
              · simp only [Act.put, List.setIfInBounds_toArray, List.set_cons_zero, List.set_cons_succ]
                rfl
              refine pure_ (i := 1) (N := some 151) (v := ?_) (a' := ?_) #[true, true, false, false, false, false, false, false, false, false, false, false, false, false, false, false, false, false, false, false] rfl rfl (any_of HT_.out (by kernel_rfl)) (fun _ _ _ h => h) (Or.inl ⟨by rfl, ?_⟩) ?_ ?_
              rotate_left
              · intro w'
                go_simp
                with_reducible rfl
              rotate_left
              · simp only [Act.put, List.setIfInBounds_toArray, List.set_cons_zero, List.set_cons_succ]
                rfl
              refine pure_ (i := 2) (N := some 152) (v := ?_) (a' := ?_) #[true, true, true, false, false, false, false, false, false, false, false, false, false, false, false, false, false, false, false, false] rfl rfl (any_of HT_.out (by kernel_rfl)) (fun _ _ _ h => h) (Or.inl ⟨by rfl, ?_⟩) ?_ ?_
              rotate_left
              · intro w'
                go_simp
                with_reducible rfl
              rotate_left
              · simp only [Act.put, List.setIfInBounds_toArray, List.set_cons_zero, List.set_cons_succ]
                rfl
              refine pure_ (i := 3) (N := some 153) (v := ?_) (a' := ?_) #[true, true, true, true, false, false, false, false, false, false, false, false, false, false, false, false, false, false, false, false] rfl rfl (any_of HT_.out (by kernel_rfl)) (fun _ _ _ h => h) (Or.inl ⟨by rfl, ?_⟩) ?_ ?_
              rotate_left
              · intro w'
                go_simp
                with_reducible rfl
              rotate_left
              · simp only [Act.put, List.setIfInBounds_toArray, List.set_cons_zero, List.set_cons_succ]
                rfl
              refine pure_ (i := 4) (N := some 154) (v := ?_) (a' := ?_) #[true, true, true, true, true, false, false, false, false, false, false, false, false, false, false, false, false, false, false, false] rfl rfl (any_of HT_.out (by kernel_rfl)) (fun _ _ _ h => h) (Or.inl ⟨by rfl, ?_⟩) ?_ ?_
              rotate_left
              · intro w'
                go_simp
                with_reducible rfl
              rotate_left
              · simp only [Act.put, List.setIfInBounds_toArray, List.set_cons_zero, List.set_cons_succ]
                rfl
              refine pure_ (i := 5) (N := some 155) (v := ?_) (a' := ?_) #[true, true, true, true, true, true, false, false, false, false, false, false, false, false, false, false, false, false, false, false] rfl rfl (any_of HT_.out (by kernel_rfl)) (fun _ _ _ h => h) (Or.inl ⟨by rfl, ?_⟩) ?_ ?_
              rotate_left
              · intro w'
                go_simp
                with_reducible rfl
              rotate_left
              · simp only [Act.put, List.setIfInBounds_toArray, List.set_cons_zero, List.set_cons_succ]
                rfl
              refine pure_ (i := 6) (N := some 156) (v := ?_) (a' := ?_) #[true, true, true, true, true, true, true, false, false, false, false, false, false, false, false, false, false, false, false, false] rfl rfl (any_of HT_.out (by kernel_rfl)) (fun _ _ _ h => h) (Or.inl ⟨by rfl, ?_⟩) ?_ ?_
              rotate_left
              · intro w'
                go_simp
                with_reducible rfl
              rotate_left
              · simp only [Act.put, List.setIfInBounds_toArray, List.set_cons_zero, List.set_cons_succ]
                rfl
              refine pure_ (i := 7) (N := some 157) (v := ?_) (a' := ?_) #[true, true, true, true, true, true, true, true, false, false, false, false, false, false, false, false, false, false, false, false] rfl rfl (any_of HT_.out (by kernel_rfl)) (fun _ _ _ h => h) (Or.inl ⟨by rfl, ?_⟩) ?_ ?_
              rotate_left
              · intro w'
                go_simp
                with_reducible rfl
              rotate_left
              · simp only [Act.put, List.setIfInBounds_toArray, List.set_cons_zero, List.set_cons_succ]
                rfl
              refine pure_ (i := 9) (N := some 159) (v := ?_) (a' := ?_) #[true, true, true, true, true, true, true, true, false, true, false, false, false, false, false, false, false, false, false, false] rfl rfl (any_of HT_.out (by kernel_rfl)) (fun _ _ _ h => h) (Or.inl ⟨by rfl, ?_⟩) ?_ ?_
              rotate_left
              · intro w'
                go_simp
                with_reducible rfl
              rotate_left
              · simp only [Act.put, List.setIfInBounds_toArray, List.set_cons_zero, List.set_cons_succ]
                rfl
              refine pure_ (i := 10) (N := some 160) (v := ?_) (a' := ?_) #[true, true, true, true, true, true, true, true, false, true, true, false, false, false, false, false, false, false, false, false] rfl rfl (any_of HT_.out (by kernel_rfl)) (fun _ _ _ h => h) (Or.inl ⟨by rfl, ?_⟩) ?_ ?_
              rotate_left
              · intro w'
                go_simp
                with_reducible rfl
              rotate_left
              · simp only [Act.put, List.setIfInBounds_toArray, List.set_cons_zero, List.set_cons_succ]
                rfl
              refine pure_ (i := 11) (N := some 161) (v := ?_) (a' := ?_) #[true, true, true, true, true, true, true, true, false, true, true, true, false, false, false, false, false, false, false, false] rfl rfl (any_of HT_.out (by kernel_rfl)) (fun _ _ _ h => h) (Or.inl ⟨by rfl, ?_⟩) ?_ ?_
              rotate_left
              · intro w'
                go_simp
                with_reducible rfl
              rotate_left
              · simp only [Act.put, List.setIfInBounds_toArray, List.set_cons_zero, List.set_cons_succ]
                rfl
              refine pure_ (i := 12) (N := some 162) (v := ?_) (a' := ?_) #[true, true, true, true, true, true, true, true, false, true, true, true, true, false, false, false, false, false, false, false] rfl rfl (any_of HT_.out (by kernel_rfl)) (fun _ _ _ h => h) (Or.inl ⟨by rfl, ?_⟩) ?_ ?_
              rotate_left
              · intro w'
                go_simp
                with_reducible rfl
              rotate_left
              · simp only [Act.put, List.setIfInBounds_toArray, List.set_cons_zero, List.set_cons_succ]
                rfl
              refine pure_ (i := 13) (N := some 163) (v := ?_) (a' := ?_) #[true, true, true, true, true, true, true, true, false, true, true, true, true, true, false, false, false, false, false, false] rfl rfl (any_of HT_.out (by kernel_rfl)) (fun _ _ _ h => h) (Or.inl ⟨by rfl, ?_⟩) ?_ ?_
              rotate_left
              · intro w'
                go_simp
                with_reducible rfl
              rotate_left
              · simp only [Act.put, List.setIfInBounds_toArray, List.set_cons_zero, List.set_cons_succ]
                rfl
              refine pure_ (i := 14) (N := some 164) (v := ?_) (a' := ?_) #[true, true, true, true, true, true, true, true, false, true, true, true, true, true, true, false, false, false, false, false] rfl rfl (any_of HT_.out (by kernel_rfl)) (fun _ _ _ h => h) (Or.inl ⟨by rfl, ?_⟩) ?_ ?_
              rotate_left
              · intro w'
                go_simp
                with_reducible rfl
              rotate_left
              · simp only [Act.put, List.setIfInBounds_toArray, List.set_cons_zero, List.set_cons_succ]
                rfl
              refine pure_ (i := 15) (N := some 165) (v := ?_) (a' := ?_) #[true, true, true, true, true, true, true, true, false, true, true, true, true, true, true, true, false, false, false, false] rfl rfl (any_of HT_.out (by kernel_rfl)) (fun _ _ _ h => h) (Or.inl ⟨by rfl, ?_⟩) ?_ ?_
              rotate_left
              · intro w'
                go_simp
                with_reducible rfl
              rotate_left
              · simp only [Act.put, List.setIfInBounds_toArray, List.set_cons_zero, List.set_cons_succ]
                rfl
              refine pure_ (i := 16) (N := some 166) (v := ?_) (a' := ?_) #[true, true, true, true, true, true, true, true, false, true, true, true, true, true, true, true, true, false, false, false] rfl rfl (any_of HT_.out (by kernel_rfl)) (fun _ _ _ h => h) (Or.inl ⟨by rfl, ?_⟩) ?_ ?_
              rotate_left
              · intro w'
                go_simp
                with_reducible rfl
              rotate_left
              · simp only [Act.put, List.setIfInBounds_toArray, List.set_cons_zero, List.set_cons_succ]
                rfl
              refine take_ (i := 8) (N := some 158) (v := ?_) (a' := ?_) #[true, true, true, true, true, true, true, true, true, true, true, true, true, true, true, true, true, false, false, false] rfl rfl (take_ofW HT_.out HW_.out (by kernel_rfl)) (fun _ _ _ h => h) (Or.inl ⟨by rfl, ?_⟩) hHeld ?_ ?_
              rotate_left
              · intro w' hkt
                have s0 := r1.out w' (HW5.out.trans hkt)
                have s1 := r2.out w' (HW5.out.trans hkt)
                go_simp
                with_reducible rfl
              rotate_left
              · simp only [Act.put, List.setIfInBounds_toArray, List.set_cons_zero, List.set_cons_succ]
                rfl
              refine pure_ (i := 18) (N := some 16) (v := ?_) (a' := ?_) #[true, true, true, true, true, true, true, true, true, true, true, true, true, true, true, true, true, false, true, false] rfl rfl (any_of HT_.out (by kernel_rfl)) (fun _ _ _ h => h) (Or.inl ⟨by rfl, ?_⟩) ?_ ?_
              rotate_left
              · intro w'
                go_simp
                with_reducible rfl
              rotate_left
              · simp only [Act.put, List.setIfInBounds_toArray, List.set_cons_zero, List.set_cons_succ]
                rfl
              refine take_ (i := 17) (N := some 167) (v := ?_) (a' := ?_) #[true, true, true, true, true, true, true, true, true, true, true, true, true, true, true, true, true, true, true, false] rfl rfl (take_ofW HT_.out HW_.out (by kernel_rfl)) (fun _ _ _ h => h) (Or.inl ⟨by rfl, ?_⟩) hHeld ?_ ?_
              rotate_left
              · intro w' hkt
                have s0 := r1.out w' (HW5.out.trans hkt)
                have s1 := r2.out w' (HW5.out.trans hkt)
                go_simp
                with_reducible rfl
              rotate_left
              · simp only [Act.put, List.setIfInBounds_toArray, List.set_cons_zero, List.set_cons_succ]
                rfl
              refine pure_ (i := 19) (N := some 17) (v := ?_) (a' := ?_) #[true, true, true, true, true, true, true, true, true, true, true, true, true, true, true, true, true, true, true, true] rfl rfl (any_of HT_.out (by kernel_rfl)) (fun _ _ _ h => h) (Or.inl ⟨by rfl, ?_⟩) ?_ ?_
              rotate_left
              · intro w'
                go_simp
                with_reducible rfl
              rotate_left
              · simp only [Act.put, List.setIfInBounds_toArray, List.set_cons_zero, List.set_cons_succ]
                rfl
              refine done_ (done_of HT_.out (by kernel_rfl)) ?_
              clear m1 m2 v1 v2 v3 v4 v5 v6 v7 v8 v9
              go_upto_region 30 with fail
              go_cut [18] (fun c18 wc => c18 = .bool sv ∧ Hid (New w5 wc))
              case first =>
                have hw5 : Hid (New w5 wd) := HW5.out.trans hHeld
                by_cases h1 : a = INF
                · have h1 : a = 2147483647 := h1
                  subst h1
                  go_wp2_with fail
                  go_meet
                  case rel => exact ⟨by rw [← HSV.out]; rfl, hw5⟩
                · have ra' := ra.resolve_left h1
                  have e1 : (a != 2147483647) = true := by simpa [INF] using h1
                  by_cases h2 : b = INF
                  · have h2 : b = 2147483647 := h2
                    subst h2
                    go_wp2_with fail
                    go_meet
                    case rel => exact ⟨by rw [← HSV.out]; simp [settledB, INF], hw5⟩
                  · have rb' := rb.resolve_left h2
                    have e2 : (b != 2147483647) = true := by simpa [INF] using h2
                    obtain ⟨ra1, ra2⟩ := ra'
                    obtain ⟨rb1, rb2⟩ := rb'
                    by_cases h3 : a + b ≤ 2
                    · go_wp2_with fail
                      all_goals
                        go_meet
                        case rel =>
                          first
                            | exact ⟨by rw [← HSV.out, tmod2, tmod2]; simp [settledB, h1, h2, h3], hw5⟩
                            | exact ⟨by have hm : a.tmod 2 = 0 := by assumption
                                        have h9 := tmod2 a; rw [hm] at h9; rw [← HSV.out]; unfold settledB; rw [← h9]; simp, hw5⟩
                    · go_wp2_with fail
                      go_meet
                      case rel => exact ⟨by rw [← HSV.out]; unfold settledB; rw [decide_eq_false (show ¬ a + b ≤ 2 by omega)]; simp, hw5⟩
              case rest =>
                obtain ⟨rfl, HWC⟩ := hcut
                clear k1 k2 ra rb
                by_cases hs : sv = true
                · have he := HIFF.out.1 hs
                  rw [← he] at q2
                  have q2 : Hid (∀ W, New w5 W → W.cell? ⟨gM, j, none⟩ = some (.int .i64 (M.getD i 0 : Nat))) := q2
                  clear he
                  subst hs
                  generalize M.getD i 0 = mi at q1 q2
                  go_wp2_with fail
                  refine start_ (n := 11) (S := fun W => New wc W) (ds := []) #[false, false, false, false, false, false, false, false, false, false, false] (by kernel_rfl) rfl rfl (New.refl wc).drew (fun hHeld => ?_); refine with_tabW r15bTab r15bBits (fun HT_ HW_ => ?_)
                  generalize wc.drew = wd2 at hHeld ⊢
                  refine pure_ (i := 0) (N := some 192) (v := ?_) (a' := ?_) #[true, false, false, false, false, false, false, false, false, false, false] rfl rfl (any_of HT_.out (by kernel_rfl)) (fun _ _ _ h => h) (Or.inl ⟨by rfl, ?_⟩) ?_ ?_
                  rotate_left
                  · intro w'
                    go_simp
                    with_reducible rfl
                  rotate_left
                  · simp only [Act.put, List.setIfInBounds_toArray, List.set_cons_zero, List.set_cons_succ]
                    rfl
                  refine pure_ (i := 1) (N := some 193) (v := ?_) (a' := ?_) #[true, true, false, false, false, false, false, false, false, false, false] rfl rfl (any_of HT_.out (by kernel_rfl)) (fun _ _ _ h => h) (Or.inl ⟨by rfl, ?_⟩) ?_ ?_
                  rotate_left
                  · intro w'
                    go_simp
                    with_reducible rfl
                  rotate_left
                  · simp only [Act.put, List.setIfInBounds_toArray, List.set_cons_zero, List.set_cons_succ]
                    rfl
                  refine pure_ (i := 2) (N := some 194) (v := ?_) (a' := ?_) #[true, true, true, false, false, false, false, false, false, false, false] rfl rfl (any_of HT_.out (by kernel_rfl)) (fun _ _ _ h => h) (Or.inl ⟨by rfl, ?_⟩) ?_ ?_
                  rotate_left
                  · intro w'
                    go_simp
                    with_reducible rfl
                  rotate_left
                  · simp only [Act.put, List.setIfInBounds_toArray, List.set_cons_zero, List.set_cons_succ]
                    rfl
                  refine pure_ (i := 3) (N := some 195) (v := ?_) (a' := ?_) #[true, true, true, true, false, false, false, false, false, false, false] rfl rfl (any_of HT_.out (by kernel_rfl)) (fun _ _ _ h => h) (Or.inl ⟨by rfl, ?_⟩) ?_ ?_
                  rotate_left
                  · intro w'
                    go_simp
                    with_reducible rfl
                  rotate_left
                  · simp only [Act.put, List.setIfInBounds_toArray, List.set_cons_zero, List.set_cons_succ]
                    rfl
                  refine pure_ (i := 5) (N := some 197) (v := ?_) (a' := ?_) #[true, true, true, true, false, true, false, false, false, false, false] rfl rfl (any_of HT_.out (by kernel_rfl)) (fun _ _ _ h => h) (Or.inl ⟨by rfl, ?_⟩) ?_ ?_
                  rotate_left
                  · intro w'
                    go_simp
                    with_reducible rfl
                  rotate_left
                  · simp only [Act.put, List.setIfInBounds_toArray, List.set_cons_zero, List.set_cons_succ]
                    rfl
                  refine pure_ (i := 6) (N := some 198) (v := ?_) (a' := ?_) #[true, true, true, true, false, true, true, false, false, false, false] rfl rfl (any_of HT_.out (by kernel_rfl)) (fun _ _ _ h => h) (Or.inl ⟨by rfl, ?_⟩) ?_ ?_
                  rotate_left
                  · intro w'
                    go_simp
                    with_reducible rfl
                  rotate_left
                  · simp only [Act.put, List.setIfInBounds_toArray, List.set_cons_zero, List.set_cons_succ]
                    rfl
                  refine pure_ (i := 7) (N := some 199) (v := ?_) (a' := ?_) #[true, true, true, true, false, true, true, true, false, false, false] rfl rfl (any_of HT_.out (by kernel_rfl)) (fun _ _ _ h => h) (Or.inl ⟨by rfl, ?_⟩) ?_ ?_
                  rotate_left
                  · intro w'
                    go_simp
                    with_reducible rfl
                  rotate_left
                  · simp only [Act.put, List.setIfInBounds_toArray, List.set_cons_zero, List.set_cons_succ]
                    rfl
                  refine take_ (i := 4) (N := some 196) (v := ?_) (a' := ?_) #[true, true, true, true, true, true, true, true, false, false, false] rfl rfl (take_ofW HT_.out HW_.out (by kernel_rfl)) (fun _ _ _ h => h) (Or.inl ⟨by rfl, ?_⟩) hHeld ?_ ?_
                  rotate_left
                  · intro w' hkt
                    have s0 := q1.out w' (HWC.out.trans hkt)
                    have s1 := q2.out w' (HWC.out.trans hkt)
                    go_simp
                    with_reducible rfl
                  rotate_left
                  · simp only [Act.put, List.setIfInBounds_toArray, List.set_cons_zero, List.set_cons_succ]
                    rfl
                  refine take_ (i := 8) (N := some 200) (v := ?_) (a' := ?_) #[true, true, true, true, true, true, true, true, true, false, false] rfl rfl (take_ofW HT_.out HW_.out (by kernel_rfl)) (fun _ _ _ h => h) (Or.inl ⟨by rfl, ?_⟩) hHeld ?_ ?_
                  rotate_left
                  · intro w' hkt
                    have s0 := q1.out w' (HWC.out.trans hkt)
                    have s1 := q2.out w' (HWC.out.trans hkt)
                    go_simp
                    with_reducible rfl
                  rotate_left
                  · simp only [Act.put, List.setIfInBounds_toArray, List.set_cons_zero, List.set_cons_succ]
                    rfl
                  refine pure_ (i := 9) (N := some 201) (v := ?_) (a' := ?_) #[true, true, true, true, true, true, true, true, true, true, false] rfl rfl (any_of HT_.out (by kernel_rfl)) (fun _ _ _ h => h) (Or.inl ⟨by rfl, ?_⟩) ?_ ?_
                  rotate_left
                  · intro w'
                    go_simp
                    with_reducible rfl
                  rotate_left
                  · simp only [Act.put, List.setIfInBounds_toArray, List.set_cons_zero, List.set_cons_succ]
                    rfl
                  refine pure_ (i := 10) (N := some 202) (v := ?_) (a' := ?_) #[true, true, true, true, true, true, true, true, true, true, true] rfl rfl (any_of HT_.out (by kernel_rfl)) (fun _ _ _ h => h) (Or.inl ⟨by rfl, ?_⟩) ?_ ?_
                  rotate_left
                  · intro w'
                    go_simp
                    with_reducible rfl
                  rotate_left
                  · simp only [Act.put, List.setIfInBounds_toArray, List.set_cons_zero, List.set_cons_succ]
                    rfl
                  refine done_ (done_of HT_.out (by kernel_rfl)) ?_
                  go_wp2_with fail
                  exact ⟨⟨j + 1, by omega, by go_num, HWC.out.trans hHeld⟩, by simp [intOf] <;> omega⟩
                · have he : ¬ M.getD i 0 = M.getD j 0 := fun e => hs (HIFF.out.2 e)
                  have hs : sv = false := by simpa using hs
                  subst hs
                  generalize M.getD i 0 = mi at q1 he
                  generalize M.getD j 0 = mj at q2 he
                  have eb : ((mi : Int) == (mj : Int)) = false := by simp; omega
                  clear he
                  go_wp2_with fail
                  refine start_ (n := 11) (S := fun W => New wc W) (ds := []) #[false, false, false, false, false, false, false, false, false, false, false] (by kernel_rfl) rfl rfl (New.refl wc).drew (fun hHeld => ?_); refine with_tabW r15bTab r15bBits (fun HT_ HW_ => ?_)
                  generalize wc.drew = wd2 at hHeld ⊢
                  refine pure_ (i := 0) (N := some 192) (v := ?_) (a' := ?_) #[true, false, false, false, false, false, false, false, false, false, false] rfl rfl (any_of HT_.out (by kernel_rfl)) (fun _ _ _ h => h) (Or.inl ⟨by rfl, ?_⟩) ?_ ?_
                  rotate_left
                  · intro w'
                    go_simp
                    with_reducible rfl
                  rotate_left
                  · simp only [Act.put, List.setIfInBounds_toArray, List.set_cons_zero, List.set_cons_succ]
                    rfl
                  refine pure_ (i := 1) (N := some 193) (v := ?_) (a' := ?_) #[true, true, false, false, false, false, false, false, false, false, false] rfl rfl (any_of HT_.out (by kernel_rfl)) (fun _ _ _ h => h) (Or.inl ⟨by rfl, ?_⟩) ?_ ?_
                  rotate_left
                  · intro w'
                    go_simp
                    with_reducible rfl
                  rotate_left
                  · simp only [Act.put, List.setIfInBounds_toArray, List.set_cons_zero, List.set_cons_succ]
                    rfl
                  refine pure_ (i := 2) (N := some 194) (v := ?_) (a' := ?_) #[true, true, true, false, false, false, false, false, false, false, false] rfl rfl (any_of HT_.out (by kernel_rfl)) (fun _ _ _ h => h) (Or.inl ⟨by rfl, ?_⟩) ?_ ?_
                  rotate_left
                  · intro w'
                    go_simp
                    with_reducible rfl
                  rotate_left
                  · simp only [Act.put, List.setIfInBounds_toArray, List.set_cons_zero, List.set_cons_succ]
                    rfl
                  refine pure_ (i := 3) (N := some 195) (v := ?_) (a' := ?_) #[true, true, true, true, false, false, false, false, false, false, false] rfl rfl (any_of HT_.out (by kernel_rfl)) (fun _ _ _ h => h) (Or.inl ⟨by rfl, ?_⟩) ?_ ?_
                  rotate_left
                  · intro w'
                    go_simp
                    with_reducible rfl
                  rotate_left
                  · simp only [Act.put, List.setIfInBounds_toArray, List.set_cons_zero, List.set_cons_succ]
                    rfl
                  refine pure_ (i := 5) (N := some 197) (v := ?_) (a' := ?_) #[true, true, true, true, false, true, false, false, false, false, false] rfl rfl (any_of HT_.out (by kernel_rfl)) (fun _ _ _ h => h) (Or.inl ⟨by rfl, ?_⟩) ?_ ?_
                  rotate_left
                  · intro w'
                    go_simp
                    with_reducible rfl
                  rotate_left
                  · simp only [Act.put, List.setIfInBounds_toArray, List.set_cons_zero, List.set_cons_succ]
                    rfl
                  refine pure_ (i := 6) (N := some 198) (v := ?_) (a' := ?_) #[true, true, true, true, false, true, true, false, false, false, false] rfl rfl (any_of HT_.out (by kernel_rfl)) (fun _ _ _ h => h) (Or.inl ⟨by rfl, ?_⟩) ?_ ?_
                  rotate_left
                  · intro w'
                    go_simp
                    with_reducible rfl
                  rotate_left
                  · simp only [Act.put, List.setIfInBounds_toArray, List.set_cons_zero, List.set_cons_succ]
                    rfl
                  refine pure_ (i := 7) (N := some 199) (v := ?_) (a' := ?_) #[true, true, true, true, false, true, true, true, false, false, false] rfl rfl (any_of HT_.out (by kernel_rfl)) (fun _ _ _ h => h) (Or.inl ⟨by rfl, ?_⟩) ?_ ?_
                  rotate_left
                  · intro w'
                    go_simp
                    with_reducible rfl
                  rotate_left
                  · simp only [Act.put, List.setIfInBounds_toArray, List.set_cons_zero, List.set_cons_succ]
                    rfl
                  refine take_ (i := 4) (N := some 196) (v := ?_) (a' := ?_) #[true, true, true, true, true, true, true, true, false, false, false] rfl rfl (take_ofW HT_.out HW_.out (by kernel_rfl)) (fun _ _ _ h => h) (Or.inl ⟨by rfl, ?_⟩) hHeld ?_ ?_
                  rotate_left
                  · intro w' hkt
                    have s0 := q1.out w' (HWC.out.trans hkt)
                    have s1 := q2.out w' (HWC.out.trans hkt)
                    go_simp
                    with_reducible rfl
                  rotate_left
                  · simp only [Act.put, List.setIfInBounds_toArray, List.set_cons_zero, List.set_cons_succ]
                    rfl
                  refine take_ (i := 8) (N := some 200) (v := ?_) (a' := ?_) #[true, true, true, true, true, true, true, true, true, false, false] rfl rfl (take_ofW HT_.out HW_.out (by kernel_rfl)) (fun _ _ _ h => h) (Or.inl ⟨by rfl, ?_⟩) hHeld ?_ ?_
                  rotate_left
                  · intro w' hkt
                    have s0 := q1.out w' (HWC.out.trans hkt)
                    have s1 := q2.out w' (HWC.out.trans hkt)
                    go_simp
                    with_reducible rfl
                  rotate_left
                  · simp only [Act.put, List.setIfInBounds_toArray, List.set_cons_zero, List.set_cons_succ]
                    rfl
                  refine pure_ (i := 9) (N := some 201) (v := ?_) (a' := ?_) #[true, true, true, true, true, true, true, true, true, true, false] rfl rfl (any_of HT_.out (by kernel_rfl)) (fun _ _ _ h => h) (Or.inl ⟨by rfl, ?_⟩) ?_ ?_
                  rotate_left
                  · intro w'
                    go_simp
                    with_reducible rfl
                  rotate_left
                  · simp only [Act.put, List.setIfInBounds_toArray, List.set_cons_zero, List.set_cons_succ]
                    rfl
                  refine pure_ (i := 10) (N := some 202) (v := ?_) (a' := ?_) #[true, true, true, true, true, true, true, true, true, true, true] rfl rfl (any_of HT_.out (by kernel_rfl)) (fun _ _ _ h => h) (Or.inl ⟨by rfl, ?_⟩) ?_ ?_
                  rotate_left
                  · intro w'
                    go_simp
                    with_reducible rfl
                  rotate_left
                  · simp only [Act.put, List.setIfInBounds_toArray, List.set_cons_zero, List.set_cons_succ]
                    rfl
                  refine done_ (done_of HT_.out (by kernel_rfl)) ?_
                  go_wp2_with fail
                  exact ⟨⟨j + 1, by omega, by go_num, HWC.out.trans hHeld⟩, by simp [intOf] <;> omega⟩
            · have hjz : ¬ (j : Int) ≤ n := by omega
              go_wp2_with fail
              exact ⟨⟨i + 1, by omega, by go_num, HW5⟩, by simp [intOf] <;> omega⟩
        · have hiz : ¬ (i : Int) ≤ n := by omega
          have hcn : (cnt : Int) = (n : Int) + 1 := by have := HCNT.out; omega
          go_wp2_with fail
          refine (LV.out wi).mono ?_
          rintro e w6 ⟨rfl, hn6⟩
          go_wp2_with fail
          go_ret
          exact ⟨rfl, ((HN5.out.trans HWI.out).trans hn6).below (Nat.le_refl _)⟩
end Go.Proofs.Ytapfihlgemejiaa
