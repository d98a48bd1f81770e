/- ReduceBack. -/
import Derived.Test.YtapfihlgemejiaaP8
import Derived.Test.YtapfihlgemejiaaR18
import Derived.Test.YtapfihlgemejiaaD6
namespace Go.Proofs.Ytapfihlgemejiaa
open Go.RowKit
theorem limRow_append (a b : List Lim) : limRow (a ++ b) = limRow a ++ limRow b := by simp [limRow]
theorem limRow_split (l : List Lim) (t : Nat) (h : t ≤ l.length) : limRow (l.take t) = (limRow l).take (3 * t) ∧ limRow (l.drop t) = (limRow l).drop (3 * t) := by
  have e : limRow l = limRow (l.take t) ++ limRow (l.drop t) := by rw [← limRow_append, List.take_append_drop]
  have hl : (limRow (l.take t)).length = 3 * t := by rw [limRow_length, List.length_take]; omega
  rw [e]
  exact ⟨(List.take_left' hl).symm, (List.drop_left' hl).symm⟩
theorem Elems.upto {w : World} {B : Nat} {A : Option Addr} {xs : List Value} (h : Elems w B A xs) (k : Nat) : Elems w B A (xs.take k) := fun hl => by
  obtain ⟨b, off, e, hb, hc⟩ := h (by rw [List.length_take] at hl; omega)
  refine ⟨b, off, e, hb, fun j u hu => hc j u ?_⟩
  rw [List.getElem?_take] at hu
  split at hu
  · exact hu
  · cases hu
theorem Elems.after {w : World} {B b off : Nat} {A' : Option Addr} {xs : List Value} (h : Elems w B (some ⟨b, off, none⟩) xs) (k : Nat) (hA : k < xs.length → A' = some ⟨b, off + k, none⟩) : Elems w B A' (xs.drop k) := fun hl => by
  rw [List.length_drop] at hl
  obtain ⟨b', off', e, hb, hc⟩ := h (by omega)
  simp only [Option.some.injEq, Addr.mk.injEq, and_true] at e
  obtain ⟨rfl, rfl⟩ := e
  refine ⟨b, off + k, hA (by omega), hb, fun j u hu => ?_⟩
  rw [List.getElem?_drop] at hu
  rw [Nat.add_assoc]
  exact hc _ _ hu
theorem limRow_one (l : List Lim) : ∀ u ∈ limRow l, u.oneCell' = true := by
  intro u hu
  obtain ⟨x, _, hu⟩ := List.mem_flatMap.1 hu
  simp only [List.mem_cons, List.not_mem_nil, or_false] at hu
  rcases hu with rfl | rfl | rfl <;> rfl
theorem own_cap {w : World} {base e size n c : Nat} {A : Option Addr} {xs : List Value} (h : w.ownsRow base e size (.slice A n c) n xs) : n ≤ c ∧ c ≤ maxLen := by
  rcases h.2 with ⟨e, h0⟩ | ⟨_, cap, _, hv, _, _, h1, h2, _⟩
  · subst h0
    injection e with _ _ hc
    subst hc
    exact ⟨Nat.le_refl _, by decide⟩
  · injection hv with _ _ hc
    subst hc
    exact ⟨h1, h2⟩
theorem elem113 : Try.prog.underlying 113 = some (.slice (Try.prog.elem 113)) := by kernel_rfl
theorem size113 (W : World) : (sizeOf (Try.prog.elem 113)).run Try.prog W = .ok 3 W := by kernel_rfl
set_option maxRecDepth 100000 in
set_option maxHeartbeats 8000000 in
theorem reduceBack_err (n : Int) (k : Int) (hk0 : k ≠ 0) (v : Value) (w : World) (hof : Calls Try.prog 26 #[.int .i64 n, v] w fun e w' => ZRet w n (.err k) e w' ∧ New w w') :
    Calls Try.prog 18 #[.int .i64 n, v] w fun e w' => e = .returned (.bool true) ∧ Below w.heap.size w w' := by
  have HOF := Lib.hid hof
  have LV := Lib.hid live25_any
  clear hof
  go_enter Try.func18, Try.ntmps18
  go_wp2_with fail
  refine HOF.out.mono ?_
  rintro e w1 ⟨hz, hn1⟩
  have hz : e = .returned (.tuple #[.pointer none, .int .i64 k]) := hz
  subst hz
  have N1 := Lib.hid hn1
  clear hn1 HOF
  go_wp2_with fail
  refine (LV.out w1).mono ?_
  rintro e w2 ⟨rfl, hn2⟩
  go_wp2_with fail
  go_ret
  exact ⟨rfl, (N1.out.trans hn2).below (Nat.le_refl _)⟩
set_option maxRecDepth 100000 in
set_option maxHeartbeats 8000000 in
theorem reduceBack_main (n : Nat) (Z : List Int) (hg : ZGood ⟨n, Z⟩) (hZl : Z.length = 81) (v : Value) (w : World) (hof : Calls Try.prog 26 #[.int .i64 n, v] w fun e w' => ZRet w n (.ok Z) e w' ∧ New w w') :
    Calls Try.prog 18 #[.int .i64 n, v] w fun e w' => e = .returned (.bool true) ∧ Below w.heap.size w w' := by
  have HOF := Lib.hid hof
  have LV := Lib.hid live25_any
  have HG := Lib.hid hg
  have hn8 := hg.1
  have hn8 : n ≤ 8 := hn8
  obtain ⟨hlen, hsm⟩ := fewN_small hg
  obtain ⟨m, hm⟩ : ∃ m, (fewN ⟨n, Z⟩).length = m := ⟨_, rfl⟩
  rw [hm] at hlen
  have HM := Lib.hid hm
  obtain ⟨i0, hi0, hz0, hz1, hz2⟩ := info_parts infoOf100
  clear hof hg hsm hm
  go_enter Try.func18, Try.ntmps18
  go_wp2_with fail
  refine HOF.out.mono ?_
  rintro e w1 ⟨hzr, hn1⟩
  obtain ⟨g, rfl, hg, hr⟩ := hzr
  have hza : ZoneAt w1 g ⟨n, Z⟩ := ⟨hr, hZl, hn8⟩
  have F := Lib.hid (few_all g ⟨n, Z⟩ w1 hza HG.out)
  have N1 := Lib.hid hn1
  have HZA := Lib.hid hza
  clear hr hza hn1 HOF hg
  go_wp2_with fail
  refine F.out.mono ?_
  rintro e w2 ⟨v2, rfl, ho, hn2⟩
  obtain ⟨A2, c2, hv⟩ := own_form ho
  rw [HM.out] at hv ho
  subst hv
  have hcap := own_cap ho
  have hbk := back_lims (n : Int) A2 c2 (fewN ⟨n, Z⟩) w2 (by rw [HM.out]; omega) (elems_of_own ho)
  rw [HM.out] at hbk
  have BK := Lib.hid hbk
  have HO := Lib.hid ho
  have N2 := Lib.hid hn2
  obtain ⟨hc1, hc2⟩ := hcap
  unfold maxLen at hc2
  clear ho hn2 F hbk
  go_wp2_with fail
  refine BK.out.mono ?_
  rintro e w3 ⟨hzr, hn3⟩
  have hmk := fewN_make HG.out
  have hmk : limZ n (fewN ⟨n, Z⟩) = .ok Z := hmk
  rw [hmk] at hzr
  obtain ⟨g3, rfl, hg3, hr3⟩ := hzr
  have hza3 : ZoneAt w3 g3 ⟨n, Z⟩ := ⟨hr3, hZl, hn8⟩
  have N3 := Lib.hid (N2.out.trans hn3)
  have EQ := Lib.hid (equal_any g3 g ⟨n, Z⟩ ⟨n, Z⟩ w3 hza3 (HZA.out.new N3.out) rfl)
  rw [show decide ((Zn.mk n Z).Z = (Zn.mk n Z).Z) = true from decide_eq_true rfl] at EQ
  have HO3 := Lib.hid (own_new HO.out hn3)
  clear hza3 hr3 hg3 hn3 hmk BK HO
  go_wp2_with fail
  refine EQ.out.mono ?_
  rintro e w4 ⟨rfl, hd4⟩
  have N4 := Lib.hid (N3.out.trans hd4.new)
  have HO4 := Lib.hid (own_new HO3.out hd4.new)
  clear hd4 EQ HO3 N3
  go_wp2_with fail
  go_loopw [10] (fun ci wr => ∃ t : Nat, t ≤ m ∧ ci = .int .i64 t ∧ Hid (New w4 wr))
    (fun ci _ => m - (intOf ci).toNat)
  case atStart => exact ⟨0, Nat.zero_le _, by go_num, New.refl w4⟩
  case round =>
    obtain ⟨t, ht, rfl, HN⟩ := hrel
    by_cases htl : t < m
    · have htz : (t : Int) < m := by omega
      have hown := own_new HO4.out HN.out
      obtain ⟨g2, hA2, hb2, hlt2, _, _⟩ := own_cell hown (by rw [limRow_length, HM.out]; omega)
      subst hA2
      have HOW := Lib.hid hown
      have tk0 : (0 : Int) ≤ (t : Int) := by omega
      have tk1 : (t : Int) ≤ (c2 : Int) := by omega
      have tk2 : IntKind.i64.wrap ((t : Int) + 1) = (t : Int) + 1 := by rw [IntKind.wrap_i64]; omega
      have tk3 : (0 : Int) ≤ (t : Int) + 1 := by omega
      have tk4 : (t : Int) + 1 ≤ (m : Int) := by omega
      have hel : Hid (Elems wr wr.heap.size (some ⟨g2, 0, none⟩) (limRow ((fewN ⟨n, Z⟩).take t))) := by
        show Elems _ _ _ _
        rw [(limRow_split _ t (by rw [HM.out]; omega)).1]
        exact (elems_of_own HOW.out).upto _
      have hel2 : Hid (∀ W A', New wr W → (t + 1 < m → A' = some ⟨g2, (t + 1) * 3, none⟩) → Elems W wr.heap.size A' (limRow ((fewN ⟨n, Z⟩).drop (t + 1)))) := fun W A' hW hA => by
        rw [(limRow_split _ (t + 1) (by rw [HM.out]; omega)).2]
        refine ((elems_of_own HOW.out).new hW (Nat.le_refl _)).after (3 * (t + 1)) (fun hk => ?_)
        rw [limRow_length, HM.out] at hk
        rw [hA (by omega), Nat.zero_add, Nat.mul_comm]
      obtain ⟨A7, hA7⟩ : ∃ A7 : Option Addr, (if c2 = t + 1 then some ⟨g2, 0, none⟩ else (some ⟨g2, 0, none⟩ : Option Addr).map (·.add ((t + 1) * 3))) = A7 := ⟨_, rfl⟩
      have hsl : ∀ W : World, (Instr.slice 113 (.slice (some ⟨g2, 0, none⟩) m c2) (some (.int .i64 ((t : Int) + 1))) none none).run Try.prog W = .ok (.slice A7 (m - (t + 1)) (c2 - (t + 1))) W := fun W => by
        rw [run_slice_l (h0 := tk3) (h1 := tk4) (ht := elem113), size113, show (((t : Int) + 1).toNat) = t + 1 by omega]
        unfold sliced
        rw [← hA7]
        rfl
      have HA7 : Hid (t + 1 < m → A7 = some ⟨g2, (t + 1) * 3, none⟩) := fun h => by
        rw [← hA7, if_neg (by omega)]
        simp [Addr.add]
      clear hA7
      have hl1 : (limRow ((fewN ⟨n, Z⟩).take t)).length = t * 3 := by rw [limRow_length, List.length_take, HM.out]; omega
      have HL1 := Lib.hid hl1
      have hl2 : (limRow ((fewN ⟨n, Z⟩).drop (t + 1))).length = (m - (t + 1)) * 3 := by rw [limRow_length, List.length_drop, HM.out]; omega
      have HL2 := Lib.hid hl2
      clear hown hl1 hl2
      go_wp2_with (at_builtin; (refine wpList_append_elems rfl _ _ 113 rfl wr.heap.size 100 i0 (.agg #[.int .i64 0, .int .i64 0, .int .i32 0]) 3 24 Try.underlying113 hi0 hz0 hz1 hz2 rfl (by decide) _ 0 _ (by rfl) (World.ownsRow_nil _ _ _ _) _ _ t _ _ (by rfl) hel.out HL1.out (limRow_one _) ?c2 ?c3 (Nat.le_refl _) ?_))
      case c2 => unfold maxLen; omega
      case c3 => omega
      intro v5 w5 ho5 hg5 hb5
      have hN5 : New wr w5 := Fr.of_grown (S := fun _ => False) hg5 (fun k hk _ => by cases hk)
      have HO5 := Lib.hid ho5
      have HN5 := Lib.hid hN5
      have HE5 := Lib.hid (hel2.out w5)
      clear ho5 hg5 hb5 hN5
      go_wp2_with (at_builtin; (refine wpList_append_elems rfl _ _ 113 rfl wr.heap.size 100 i0 (.agg #[.int .i64 0, .int .i64 0, .int .i32 0]) 3 24 Try.underlying113 hi0 hz0 hz1 hz2 rfl (by decide) _ t _ (by rfl) HO5.out _ _ (m - (t + 1)) _ _ (by rfl) (HE5.out _ HN5.out ?c1) HL2.out (limRow_one _) ?c2 ?c3 HN5.out.size ?_))
      case c1 => exact HA7.out
      case c2 => unfold maxLen; omega
      case c3 => omega
      intro v6 w6 ho6 hg6 hb6
      have hF := Fr.of_grown (S := fun k => Value.ownBlock _ = some k) hg6 (fun k hk _ => hk)
      have hN6 : New wr w6 := Fr.then HN5.out hF (fun _ _ e => e) (fun k hk e => by
        have h1 := (own_row HO5.out e).1
        omega)
      rw [← limRow_append] at ho6
      obtain ⟨A6, c6, hv6⟩ := own_form ho6
      subst hv6
      have hwl : (without (fewN ⟨n, Z⟩) t).length = t + (m - (t + 1)) := by unfold without; rw [List.length_append, List.length_take, List.length_drop, HM.out]; omega
      have hbk := back_lims (n : Int) A6 c6 (without (fewN ⟨n, Z⟩) t) w6 (by rw [hwl]; omega) (elems_of_own ho6)
      rw [hwl] at hbk
      have BK := Lib.hid hbk
      have N6 := Lib.hid (N4.out.trans (HN.out.trans hN6))
      have NR6 := Lib.hid (HN.out.trans hN6)
      clear ho6 hg6 hb6 hN6 hF hbk hwl HO5 HE5 HN5
      have hwg := without_greater HG.out (i := t) (by rw [HM.out]; exact htl)
      rcases hwg with hwg | ⟨Y, hwg, hne, hinc⟩
      · have hwg : limZ n (without (fewN ⟨n, Z⟩) t) = .err 10 := hwg
        have HW := Lib.hid hwg
        clear hwg
        go_wp2_with fail
        refine BK.out.mono ?_
        rintro e w7 ⟨hz7, hn7⟩
        rw [HW.out] at hz7
        have hz7 : e = .returned (.tuple #[.pointer none, .int .i64 10]) := hz7
        subst hz7
        have N7 := Lib.hid (NR6.out.trans hn7)
        clear hn7 BK
        go_wp2_with fail
        exact ⟨⟨t + 1, by omega, by go_num, N7.out⟩, by simp [intOf] <;> omega⟩
      · have hwg : limZ n (without (fewN ⟨n, Z⟩) t) = .ok Y := hwg
        have hYl : Y.length = 81 := by
          obtain ⟨_, _, L, _, _, _, _, hf⟩ := limZ_ok hwg
          exact hf.len
        have HW := Lib.hid hwg
        have hdf : decide ((Zn.mk n Y).Z = (Zn.mk n Z).Z) = false := decide_eq_false hne
        have HDF := Lib.hid hdf
        have HINC := Lib.hid hinc
        clear hwg hne hinc hdf
        go_wp2_with fail
        refine BK.out.mono ?_
        rintro e w7 ⟨hz7, hn7⟩
        rw [HW.out] at hz7
        obtain ⟨g7, rfl, hg7, hr7⟩ := hz7
        have hza7 : ZoneAt w7 g7 ⟨n, Y⟩ := ⟨hr7, hYl, hn8⟩
        have N7 := Lib.hid (NR6.out.trans hn7)
        have NZ7 := Lib.hid (N6.out.trans hn7)
        have EQ := Lib.hid (equal_any g7 g ⟨n, Y⟩ ⟨n, Z⟩ w7 hza7 (HZA.out.new NZ7.out) rfl)
        rw [HDF.out] at EQ
        have HZ7 := Lib.hid hza7
        clear hn7 BK hza7 hr7 hg7
        go_wp2_with fail
        refine EQ.out.mono ?_
        rintro e w8 ⟨rfl, hd8⟩
        have IN := Lib.hid (includes_any g7 g ⟨n, Y⟩ ⟨n, Z⟩ w8 (HZ7.out.new hd8.new) (HZA.out.new (NZ7.out.trans hd8.new)))
        rw [HINC.out] at IN
        have N8 := Lib.hid (N7.out.trans hd8.new)
        clear hd8 EQ
        go_wp2_with fail
        refine IN.out.mono ?_
        rintro e w9 ⟨rfl, hd9⟩
        have N9 := Lib.hid (N8.out.trans (Drew.new hd9))
        clear hd9 IN
        go_wp2_with fail
        exact ⟨⟨t + 1, by omega, by go_num, N9.out⟩, by simp [intOf] <;> omega⟩
    · have htz : ¬ (t : Int) < m := by omega
      have NR := Lib.hid (N4.out.trans HN.out)
      have hza5 := HZA.out.new NR.out
      have HP := Lib.hid (pack_any g ⟨n, Z⟩ wr hza5 HG.out)
      clear hza5
      go_wp2_with fail
      refine HP.out.mono ?_
      rintro e w6 ⟨vp, rfl, hop, hn6⟩
      obtain ⟨Ap, cp, hvp⟩ := own_form hop
      subst hvp
      have hpl : (packB ⟨n, Z⟩).length = 2 + 5 * m := by
        have h1 := packTo_length ⟨n, Z⟩ _ (Nat.le_refl _)
        rw [HM.out] at h1
        unfold packB
        rw [HM.out]
        exact h1
      have hba := bytes_own hop (packB_bytes HG.out) (by omega) (by omega)
      obtain ⟨hp0, hp1⟩ := packTo_head ⟨n, Z⟩ _ (Nat.le_refl _)
      have hu := unpack_main Ap cp (packB ⟨n, Z⟩) n m w6 hba hp0 hn8 (by rw [← HM.out]; exact hp1) hpl
      rw [unpack_pack HG.out] at hu
      have UN := Lib.hid hu
      have N6 := Lib.hid (NR.out.trans hn6)
      clear hn6 HP hop hpl hba hp0 hp1 hu
      go_wp2_with fail
      refine UN.out.mono ?_
      rintro e w7 ⟨hur, hn7⟩
      obtain ⟨g7, rfl, hg7, hr7⟩ := hur
      have hza7 : ZoneAt w7 g7 ⟨n, Z⟩ := ⟨hr7, hZl, hn8⟩
      have N7 := Lib.hid (N6.out.trans hn7)
      have HZ7 := Lib.hid hza7
      clear hza7 hr7 hg7 hn7 UN
      go_wp2_with fail
      refine (LV.out w7).mono ?_
      rintro e w8 ⟨rfl, hn8'⟩
      have N8 := Lib.hid (N7.out.trans hn8')
      have EQ := Lib.hid (equal_any g7 g ⟨n, Z⟩ ⟨n, Z⟩ w8 (HZ7.out.new hn8') (HZA.out.new N8.out) rfl)
      rw [show decide ((Zn.mk n Z).Z = (Zn.mk n Z).Z) = true from decide_eq_true rfl] at EQ
      clear hn8'
      go_wp2_with fail
      refine EQ.out.mono ?_
      rintro e w9 ⟨rfl, hd9⟩
      go_wp2_with fail
      go_ret
      exact ⟨rfl, (N1.out.trans (N8.out.trans hd9.new)).below (Nat.le_refl _)⟩
theorem reduceBack_any (n : Int) (A : Option Addr) (c : Nat) (l : List Int) (w : World) (hl : BoundsIn w A l) :
    Calls Try.prog 18 #[.int .i64 n, .slice A l.length c] w fun e w' => e = .returned (.bool true) ∧ Below w.heap.size w w' := by
  have hof := of_any n A l.length c l w rfl hl.1
  cases hq : ofZ n l with
  | err k =>
    rw [hq] at hof
    have := ofZ_err hq
    exact reduceBack_err n k (by omega) _ w hof
  | ok Z =>
    rw [hq] at hof
    obtain ⟨k, rfl, hk, _, hg, hZl⟩ := ofZ_good hq
    exact reduceBack_main k Z hg hZl _ w hof
end Go.Proofs.Ytapfihlgemejiaa
