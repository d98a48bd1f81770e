/- gnomonref03.made. | gnomonref01.Right, gnomonref03.Of. | Plain: bounds laid over the open cells, and the document's way: first as they are, then the diagonal and the first row. | gnomonref03.Of. -/
import Derived.Test.YtapfihlgemejiaaVQ2
import Derived.Test.YtapfihlgemejiaaVP4
namespace Go.Proofs.Ytapfihlgemejiaa
open Go.RowKit Go.Proofs.YtapfihlgemejiaaW.PrintLast
def r144T : Bool × List (List Nat × List Nat) := (true, [([], []), ([], []), ([1], [1]), ([2], [2]), ([3], [3]), ([], []), ([], []), ([5, 6], [5, 6]), ([7], [7]), ([8], [8]), ([9], [9]), ([4, 10], [4, 10]), ([0, 0, 1, 2, 3, 4, 5, 6, 7, 8, 9, 10, 11], [0]), ([12, 0, 1, 2, 3, 4, 5, 6, 7, 8, 9, 10, 11], [12]), ([13, 11, 11, 0, 1, 2, 3, 4, 5, 6, 7, 8, 9, 10, 11], [11, 13])])
def r144B : List Nat := [0, 0, 2, 6, 14, 0, 0, 96, 224, 480, 992, 2046, 4095, 8191, 16383]
theorem r144Tab : rtab .any (opsOf Try.f144 18) = r144T := by kernel_rfl
theorem r144Bits : waitsOk r144T.2 r144B = true := by kernel_rfl
def RRet (w : World) (n : Nat) (r : ZR) (e : Ending) (w' : World) : Prop :=
  match r with
  | .err c => e = .returned (.tuple #[.pointer none, .int .i64 c])
  | .ok Z => ∃ b, e = .returned (.tuple #[.pointer (some ⟨b, 0, none⟩), .int .i64 0]) ∧ w.heap.size ≤ b ∧ RefAt w' b ⟨n, Z⟩
theorem zoneL_bad {n : Nat} {A : List Int} (hn : n ≤ 8) {t : Nat} (ht : t < (n + 1) * (n + 1)) (h : ¬ outOk (gt (dense n A) t)) : zoneL n A = none := by
  cases hq : zoneL n A with
  | none => rfl
  | some Z =>
    obtain ⟨h1, h2, h3⟩ := split_at ht
    rw [h3, dense_gt h1 h2] at h
    exact absurd (zoneL_cells hn hq _ _ h1 h2).1 h
theorem zoneL_all {n : Nat} {A : List Int} (h : ∀ t, t < (n + 1) * (n + 1) → outOk (gt (dense n A) t)) : ∃ Z, zoneL n A = some Z := by
  cases hq : zoneL n A with
  | some Z => exact ⟨Z, rfl⟩
  | none =>
    obtain ⟨p, q, hp, hq, h1, h2⟩ := zone_stuck hq
    have h3 := h _ (at_lt hp hq)
    rw [dense_gt hp hq] at h3
    rcases h3 with h3 | h3
    · exact absurd h3 h1
    · exact absurd h2 h3
theorem WideAt.at_ {w : World} {base g n m c : Nat} {L : List Int} (h : WideAt w base g n m c L) {t : Nat} (ht : t < m) : w.cell? ⟨g, t, none⟩ = some (.int .i64 (gt (dense n L) t)) := by
  have h1 : t < (n + 1) * (n + 1) := by rw [h.1]; exact ht
  obtain ⟨a, b, e⟩ := split_at h1
  rw [e, dense_gt a b]
  exact (h.cell a b).1
theorem made_step {w wr wr1 w' : World} {zb g n m c base t : Nat} {A : List Int} {A7 : Option Addr} {c7 : Nat} {N v' : Value} {xs xs' : List Value}
    (HR : Row wr zb 214 [N, .slice A7 t c7]) (HO : wr.ownsRow zb 76 1 (.slice A7 t c7) t xs) (HW : WideAt wr base g n m c A) (HA : At g w wr) (hgs : g < w.heap.size) (hzb : w.heap.size ≤ zb) (hs : zb ≤ wr.heap.size)
    (hN : New wr wr1) (hg : wr1.grownBy w' (Value.slice A7 t c7).ownBlock) (ho : w'.ownsRow zb 76 1 v' (t + 1) xs') :
    Row (w'.setCell ⟨zb, 1, none⟩ v') zb 214 [N, v'] ∧ (w'.setCell ⟨zb, 1, none⟩ v').ownsRow zb 76 1 v' (t + 1) xs' ∧ WideAt (w'.setCell ⟨zb, 1, none⟩ v') base g n m c A ∧ At g w (w'.setCell ⟨zb, 1, none⟩ v') ∧ zb ≤ (w'.setCell ⟨zb, 1, none⟩ v').heap.size ∧
      w'.cell? ⟨zb, 1, none⟩ = some (.slice A7 t c7) ∧ w'.frozen? ⟨zb, 1, none⟩ = false := by
  have hF := Fr.of_grown (S := fun k => (Value.slice A7 t c7).ownBlock = some k) hg (fun k hk _ => hk)
  have hF2 : Fr (fun k => (Value.slice A7 t c7).ownBlock = some k) wr w' := Fr.trans (Fr.of_new hN) hF
  have hR2 : Row w' zb 214 [N, .slice A7 t c7] := Fr.row hF2 HR (own_ne HO HR (by decide))
  have hgne : g ≠ zb := by omega
  have hge : w'.heap[g]? = wr.heap[g]? := hF2.block g (Nat.lt_of_lt_of_le hgs HA.size) (fun e => by
    have := (own_row HO e).1
    omega)
  have hAt : At g w w' := ⟨hF2.os.trans HA.os, hF2.tape.trans HA.tape, hF2.output.trans HA.output, Nat.le_trans HA.size hF2.size, fun k hk hn => (hF2.block k (Nat.lt_of_lt_of_le hk HA.size) (fun e => by
    have := (own_row HO e).1
    omega)).trans (HA.block k hk hn)⟩
  refine ⟨hR2.set 1 v', ?_, ?_, ?_, ?_, hR2.cell 1, hR2.free 1⟩
  · exact own_keep ho fun g' hg' => heap_setCell_other w' ⟨zb, 1, none⟩ g' v' (fun e => own_ne ho hR2 (by decide) (by rw [hg', e]))
  · exact HW.keep ((heap_setCell_other w' ⟨zb, 1, none⟩ g v' hgne).trans hge)
  · exact Fr.set hAt (p := ⟨zb, 1, none⟩) (.inr hzb) v'
  · have := Nat.le_trans hs hF2.size
    simpa using this
set_option maxRecDepth 100000 in
set_option maxHeartbeats 8000000 in
theorem rmade_any (base g n m c : Nat) (L : List Int) (w : World) (hn : n ≤ 8) (hB : AllLt n 536870913 L) (hw : WideAt w base g n m c L) :
    Calls Try.prog 144 #[.int .i64 n, .slice (some ⟨g, 0, none⟩) m c] w fun e w' => RRet w n (zoneOf n (lowL n L)) e w' ∧ At g w w' := by
  have HB := Lib.hid hB
  have hm := hw.sq hn
  have hgs : g < w.heap.size := by
    obtain ⟨g', hA, _, hlt, _⟩ := own_cell hw.2 (by rw [ints64_length, dense_length]; exact Nat.mul_pos (Nat.succ_pos n) (Nat.succ_pos n))
    have e : g' = g := by simpa using hA.symm
    omega
  have HGS := Lib.hid hgs
  clear hB hgs
  have en : IntKind.i64.wrap ((n : Int) + 1) = (n : Int) + 1 := by rw [IntKind.wrap_i64]; omega
  go_enter Try.func144, Try.ntmps144
  go_wp2_with fail
  go_loopw [6] (fun cv wr => ∃ i : Nat, i ≤ n + 1 ∧ cv = .int .i64 i ∧ Hid (WideAt wr base g n m c (lp low1 i L)) ∧ Hid (At g w wr))
    (fun cv _ => n + 1 - (intOf cv).toNat)
  case atStart => exact ⟨0, by omega, rfl, hw, At.refl g w⟩
  case round =>
    obtain ⟨i, hi, rfl, HW, HA⟩ := hrel
    by_cases hit : i ≤ n
    · have hitz : (i : Int) ≤ (n : Int) := by omega
      have hst : lp low1 (i + 1) L = low1 i (lp low1 i L) := rfl
      have HST := Lib.hid hst
      have hML := (HB.out.lows hn (by omega) i (by omega)).1
      clear hst
      generalize lp low1 i L = M at *
      obtain ⟨c1, l1, f1⟩ := HW.out.cell hit hit
      rw [show 9 * i + i = 10 * i by omega] at c1
      have hput := HW.out.set hn hML hit hit 1
      rw [show 9 * i + i = 10 * i by omega] at hput
      have si := sq_le (a := i) (n := n) (by omega) hn
      obtain ⟨x, hx⟩ : ∃ x, gt M (10 * i) = x := ⟨_, rfl⟩
      obtain ⟨ri, hri⟩ : ∃ r, i * (n + 1) = r := ⟨_, rfl⟩
      have ei : (i : Int) * ((n : Int) + 1) = (ri : Int) := by rw [← hri]; push_cast; rfl
      rw [hri] at c1 l1 f1 si hput
      rw [hx] at c1
      have e1 : IntKind.i64.wrap ((i : Int) * ((n : Int) + 1)) = (ri : Int) := by rw [ei, IntKind.wrap_i64]; omega
      have e3 : IntKind.i64.wrap ((ri : Int) + (i : Int)) = (ri : Int) + (i : Int) := by rw [IntKind.wrap_i64]; omega
      have d1 : (ri : Int) + (i : Int) < (m : Int) := by omega
      have d4 : (0 : Int) ≤ (ri : Int) + (i : Int) := by omega
      have t1 : ((ri : Int) + (i : Int)).toNat = ri + i := by omega
      have d2 : (i : Int) < (m : Int) := by omega
      have d3 : (0 : Int) ≤ (i : Int) := by omega
      have HPUT := Lib.hid hput
      have hM2 : ∃ M2 : List Int, (if 1 < x then st M (10 * i) 1 else M) = M2 := ⟨_, rfl⟩
      obtain ⟨M2, hM2⟩ := hM2
      have hM2L : M2.length = 81 := by rw [← hM2]; split <;> simp [st_length, hML]
      have hlow : low1 i M = if 1 < gt M2 i then st M2 i 1 else M2 := by rw [← hM2, ← hx]; rfl
      have HLOW := Lib.hid hlow
      have HM2 := Lib.hid hM2
      have HML := Lib.hid hM2L
      have HX := Lib.hid hx
      clear hri ei hput hx hM2 hlow hM2L hML
      have fin : ∀ W, Hid (WideAt W base g n m c M2) → ∀ y, gt M2 i = y → W.cell? ⟨g, i, none⟩ = some (.int .i64 y) ∧ W.frozen? ⟨g, i, none⟩ = false ∧ WideAt (W.setCell ⟨g, i, none⟩ (.int .i64 1)) base g n m c (st M2 i 1) := fun W hW y hy => by
        obtain ⟨a, _, b⟩ := hW.out.cell (i := 0) (j := i) (Nat.zero_le _) hit
        have d := hW.out.set hn HML.out (i := 0) (j := i) (Nat.zero_le _) hit 1
        simp only [Nat.zero_mul, Nat.mul_zero, Nat.zero_add] at a b d
        rw [hy] at a
        exact ⟨a, b, d⟩
      have FIN := Lib.hid fin
      clear fin
      by_cases hgt : 1 < x
      · go_upto_region 6 with fail
        rw [if_pos hgt] at HM2
        have HW2 : Hid (WideAt (wr.setCell ⟨g, ri + i, none⟩ (.int .i64 1)) base g n m c M2) := by show WideAt _ _ _ _ _ _ _; rw [← HM2.out]; exact HPUT.out
        have HA2 := Lib.hid (HA.out.set (ri + i) (.int .i64 1))
        clear HPUT c1 f1
        generalize wr.setCell ⟨g, ri + i, none⟩ (.int .i64 1) = w5 at *
        obtain ⟨y, hy⟩ : ∃ y, gt M2 i = y := ⟨_, rfl⟩
        obtain ⟨c2, f2, hp2⟩ := FIN.out w5 HW2 y hy
        have HP2 := Lib.hid hp2
        rw [hy] at HLOW
        clear hp2 hy hgt
        by_cases hgy : 1 < y
        · rw [if_pos hgy] at HLOW
          go_wp2_with fail
          exact ⟨⟨i + 1, by omega, by go_num, (by show WideAt _ _ _ _ _ _ _; rw [HST.out, HLOW.out]; exact HP2.out), HA2.out.set _ _⟩, by simp [intOf] <;> omega⟩
        · rw [if_neg hgy] at HLOW
          go_wp2_with fail
          exact ⟨⟨i + 1, by omega, by go_num, (by show WideAt _ _ _ _ _ _ _; rw [HST.out, HLOW.out]; exact HW2.out), HA2.out⟩, by simp [intOf] <;> omega⟩
      · go_upto_region 6 with fail
        rw [if_neg hgt] at HM2
        have HW2 : Hid (WideAt wr base g n m c M2) := by show WideAt _ _ _ _ _ _ _; rw [← HM2.out]; exact HW.out
        clear HPUT c1 f1
        obtain ⟨y, hy⟩ : ∃ y, gt M2 i = y := ⟨_, rfl⟩
        obtain ⟨c2, f2, hp2⟩ := FIN.out wr HW2 y hy
        have HP2 := Lib.hid hp2
        rw [hy] at HLOW
        clear hp2 hy hgt
        by_cases hgy : 1 < y
        · rw [if_pos hgy] at HLOW
          go_wp2_with fail
          exact ⟨⟨i + 1, by omega, by go_num, (by show WideAt _ _ _ _ _ _ _; rw [HST.out, HLOW.out]; exact HP2.out), HA.out.set _ _⟩, by simp [intOf] <;> omega⟩
        · rw [if_neg hgy] at HLOW
          go_wp2_with fail
          exact ⟨⟨i + 1, by omega, by go_num, (by show WideAt _ _ _ _ _ _ _; rw [HST.out, HLOW.out]; exact HW2.out), HA.out⟩, by simp [intOf] <;> omega⟩
    · have hie : i = n + 1 := by omega
      subst hie
      have hitz : ¬ (((n + 1 : Nat) : Int) ≤ (n : Int)) := by omega
      have HW2 : Hid (WideAt wr base g n m c (lowL n L)) := HW
      have HB2 := Lib.hid (HB.out.lows hn (by omega) (n + 1) (Nat.le_refl _))
      have HB2 : Hid (AllLt n 536870913 (lowL n L)) := HB2
      clear HW HB
      obtain ⟨M, hM⟩ : ∃ M, lowL n L = M := ⟨_, rfl⟩
      rw [hM] at HW2 HB2
      have HMM := Lib.hid hM
      clear hM
      have HC := Lib.hid (rclose_any base g n m c M wr hn HB2.out HW2.out)
      cases hc : closeL n M with
      | none =>
        rw [hc] at HC
        have HZ := Lib.hid (zoneOf_none hc)
        clear hc
        go_wp2_with fail
        refine HC.out.mono ?_
        rintro e w5 ⟨rfl, ha5, _⟩
        have HE := Lib.hid (rempty1_any n w5 hn)
        have HA5 := Lib.hid (HA.out.trans ha5)
        clear ha5 HC
        go_wp2_with fail
        refine HE.out.mono ?_
        rintro e w6 ⟨⟨b, rfl, hb, hr⟩, hn6⟩
        have HR := Lib.hid hr
        have HBG := Lib.hid (Nat.le_trans HA5.out.size hb)
        have HA6 := Lib.hid (HA5.out.new hn6)
        clear hb hr hn6
        go_wp2_with fail
        go_ret2
        exact ⟨by rw [HMM.out, HZ.out]; exact ⟨b, rfl, HBG.out, HR.out⟩, HA6.out⟩
      | some A =>
        have HCC := Lib.hid hc
        have hsome : (closeL n M).isSome = true := by rw [hc]; rfl
        rw [hsome] at HC
        clear hc hsome
        go_wp2_with fail
        refine HC.out.mono ?_
        rintro e w5 ⟨rfl, ha5, hw5⟩
        have HW5 := Lib.hid (hw5 A HCC.out)
        have HA5 := Lib.hid (HA.out.trans ha5)
        clear ha5 hw5 HC
        go_wp2_with fail
        have HZR := Lib.hid (Row.new w5 214 [.int .i64 (n : Int), .slice none 0 0])
        have HW6 := Lib.hid (HW5.out.keep (w' := w5.alloc (.cells [.int .i64 (n : Int), .slice none 0 0].toArray 214)) (Below.heap_alloc w5 _ g (by have := HGS.out; have := HA5.out.size; omega)))
        have HA6 := Lib.hid (HA5.out.alloc (.cells [.int .i64 (n : Int), .slice none 0 0].toArray 214))
        have HA6 : Hid (At g w (w5.alloc (.cells #[.int .i64 (n : Int), .slice none 0 0] 214))) := HA6
        have HW6 : Hid (WideAt (w5.alloc (.cells #[.int .i64 (n : Int), .slice none 0 0] 214)) base g n m c A) := HW6
        have HZR : Hid (Row (w5.alloc (.cells #[.int .i64 (n : Int), .slice none 0 0] 214)) w5.heap.size 214 [.int .i64 (n : Int), .slice none 0 0]) := HZR
        have hzb := HA5.out.size
        obtain ⟨zb, hzbe⟩ : ∃ zb, w5.heap.size = zb := ⟨_, rfl⟩
        rw [hzbe] at HZR hzb
        rw [hzbe]
        have HZB := Lib.hid hzb
        have hmz : (n + 1) * (n + 1) = m := HW5.out.1
        have HMZ := Lib.hid hmz
        obtain ⟨i0, hi0, hz0, hz1, hz2⟩ := info_parts infoOf76
        have hszz : zb ≤ (w5.alloc (.cells #[.int .i64 (n : Int), .slice none 0 0] 214)).heap.size := by simp; omega
        have HSZZ := Lib.hid hszz
        clear HW5 HA5 hzb hmz hszz
        generalize (w5.alloc (.cells #[.int .i64 (n : Int), .slice none 0 0] 214)) = w6 at *
        clear hzbe
        go_loopw [8] (fun cv wr => ∃ (t : Nat) (v : Value), t ≤ m ∧ cv = .int .i64 t ∧ Hid (Row wr zb 214 [.int .i64 (n : Int), v]) ∧ Hid (wr.ownsRow zb 76 1 v t (ints32 (((dense n A).map outV).take t))) ∧ Hid (∀ s, s < t → outOk (gt (dense n A) s)) ∧ Hid (WideAt wr base g n m c A) ∧ Hid (At g w wr) ∧ Hid (zb ≤ wr.heap.size))
          (fun cv _ => m - (intOf cv).toNat)
        case atStart => exact ⟨0, _, Nat.zero_le _, by go_num, HZR, World.ownsRow_nil _ _ _ _, fun s hs => absurd hs (Nat.not_lt_zero _), HW6, HA6, HSZZ⟩
        case round =>
          obtain ⟨t, v, ht, rfl, HR, HO, HOK, HW, HA, HS⟩ := hrel
          by_cases htl : t < m
          · have htz : (t : Int) < m := by omega
            have htd : t < (n + 1) * (n + 1) := by rw [HMZ.out]; exact htl
            obtain ⟨A7, c7, hv7⟩ := own_form HO.out
            subst hv7
            have c1 := HW.out.at_ htl
            have c2 := HR.out.cell 1
            simp only [List.getElem?_cons_succ, List.getElem?_cons_zero] at c2
            have f2 := HR.out.free 1
            have hsu := take_map_succ outV .i32 (l := dense n A) (t := t) (by rw [dense_length]; exact htd)
            obtain ⟨x, hx⟩ : ∃ x, gt (dense n A) t = x := ⟨_, rfl⟩
            rw [hx] at c1 hsu
            have HX := Lib.hid hx
            have HSU := Lib.hid hsu
            clear hsu hx
            by_cases hxn : x = NONE
            · have hxn' : x = 4611686018427387904 := hxn
              subst hxn'
              have hok : outOk (gt (dense n A) t) := by rw [HX.out]; exact .inl rfl
              have HOK2 : Hid (∀ s, s < t + 1 → outOk (gt (dense n A) s)) := fun s hs => by
                by_cases e : s = t
                · subst e; exact hok
                · exact HOK.out s (by omega)
              have hN2 := (New.refl wr).alloc (.cells #[.int .i32 2147483647] 76)
              have HOWN := Lib.hid (own_new HO.out hN2)
              have HEL := Lib.hid (elems_new wr 76 (.int .i32 2147483647))
              have HSZ := Lib.hid (Nat.le_trans HS.out hN2.size)
              have HN2 := Lib.hid hN2
              clear hok hN2 hxn
              go_wp2_with (at_builtin; (refine wpList_append_elems rfl _ _ 40 rfl zb 76 i0 (.int .i32 0) 1 4 Try.underlying40 hi0 hz0 hz1 hz2 rfl (by decide) _ t _ (by rfl) HOWN.out _ _ 1 1 _ (by rfl) HEL.out rfl ?c1 ?c2 ?c3 HSZ.out ?_))
              case c1 => intro y hy; simp at hy; subst hy; rfl
              case c2 => unfold maxLen; omega
              case c3 => omega
              intro v' w' ho' hg' hb'
              obtain ⟨A8, c8, hv8⟩ := own_form ho'
              subst hv8
              obtain ⟨r1, r2, r3, r4, r5, c3, f3⟩ := made_step HR.out HO.out HW.out HA.out HGS.out HZB.out HS.out HN2.out hg' ho'
              have R1 := Lib.hid r1
              have R2 := Lib.hid r2
              have R3 := Lib.hid r3
              have R4 := Lib.hid r4
              have R5 := Lib.hid r5
              clear ho' hg' hb' r1 r2 r3 r4 r5 c1 c2 f2
              go_wp2_with fail
              refine ⟨⟨t + 1, _, by omega, by go_num, R1.out, ?_, HOK2.out, R3.out, R4.out, R5.out⟩, by simp [intOf] <;> omega⟩
              have h1 := R2.out
              show World.ownsRow _ _ _ _ _ _ _
              unfold ints32 at h1 ⊢
              rw [HSU.out]
              exact h1
            · have hxn' : (x == 4611686018427387904) = false := by unfold NONE at hxn; simpa using hxn
              by_cases hbad : x < -536870912 ∨ 536870913 < x
              · have hz := zoneL_bad hn htd (A := A) (by rw [HX.out]; rintro (h | h); exact hxn h; exact h hbad)
                have hzo := zoneOf_err HCC.out hz
                have HZO := Lib.hid hzo
                clear hz hzo hxn
                by_cases hb1 : x < -536870912
                · go_wp2_with fail
                  go_ret2
                  exact ⟨by rw [HMM.out, HZO.out]; rfl, HA.out⟩
                · have hb2 : 536870913 < x := by omega
                  clear hbad
                  go_wp2_with fail
                  go_ret2
                  exact ⟨by rw [HMM.out, HZO.out]; rfl, HA.out⟩
              · have hb1 : ¬ x < -536870912 := fun h => hbad (.inl h)
                have hb2 : ¬ 536870913 < x := fun h => hbad (.inr h)
                have hok : outOk (gt (dense n A) t) := by rw [HX.out]; exact .inr hbad
                have HOK2 : Hid (∀ s, s < t + 1 → outOk (gt (dense n A) s)) := fun s hs => by
                  by_cases e : s = t
                  · subst e; exact hok
                  · exact HOK.out s (by omega)
                have hov : outV x = x := by unfold outV; rw [if_neg hxn]
                rw [hov] at HSU
                have hw32 : IntKind.i32.wrap x = x := by rw [IntKind.wrap_i32]; omega
                have t3 : (t : Int).toNat = t := by omega
                clear hbad hok hov hxn
                go_upto_region 18 with fail
                have hN0 := (New.refl wr).drew
                refine start_ (n := 15) (S := fun W => New wr W) (ds := [11, 14]) #[false, false, false, false, false, false, false, false, false, false, false, false, false, false, false] (by kernel_rfl) rfl rfl hN0 (fun hHeld => ?_); refine with_tabW r144Tab r144Bits (fun HT_ HW_ => ?_)
                generalize wr.drew = wd at hHeld ⊢
                refine pure_ (i := 0) (N := some 81) (v := ?_) (a' := ?_) #[true, false, false, false, false, false, false, false, false, false, false, false, false, false, false] rfl rfl (any_of HT_.out (by kernel_rfl)) (fun _ _ _ h => h) (Or.inl ⟨by rfl, ?_⟩) ?_ ?_
                rotate_left
                · intro w'
                  go_simp
                  with_reducible rfl
                rotate_left
                · simp only [Act.put, List.setIfInBounds_toArray, List.set_cons_zero, List.set_cons_succ]
                  rfl
                refine pure_ (i := 1) (N := some 82) (v := ?_) (a' := ?_) #[true, true, false, false, false, false, false, false, false, false, false, false, false, false, false] rfl rfl (any_of HT_.out (by kernel_rfl)) (fun _ _ _ h => h) (Or.inl ⟨by rfl, ?_⟩) ?_ ?_
                rotate_left
                · intro w'
                  go_simp
                  with_reducible rfl
                rotate_left
                · simp only [Act.put, List.setIfInBounds_toArray, List.set_cons_zero, List.set_cons_succ]
                  rfl
                refine pure_ (i := 2) (N := some 83) (v := ?_) (a' := ?_) #[true, true, true, false, false, false, false, false, false, false, false, false, false, false, false] rfl rfl (any_of HT_.out (by kernel_rfl)) (fun _ _ _ h => h) (Or.inl ⟨by rfl, ?_⟩) ?_ ?_
                rotate_left
                · intro w'
                  go_simp
                  with_reducible rfl
                rotate_left
                · simp only [Act.put, List.setIfInBounds_toArray, List.set_cons_zero, List.set_cons_succ]
                  rfl
                refine pure_ (i := 3) (N := some 84) (v := ?_) (a' := ?_) #[true, true, true, true, false, false, false, false, false, false, false, false, false, false, false] rfl rfl (any_of HT_.out (by kernel_rfl)) (fun _ _ _ h => h) (Or.inl ⟨by rfl, ?_⟩) ?_ ?_
                rotate_left
                · intro w'
                  go_simp
                  with_reducible rfl
                rotate_left
                · simp only [Act.put, List.setIfInBounds_toArray, List.set_cons_zero, List.set_cons_succ]
                  rfl
                refine pure_ (i := 5) (N := some 86) (v := ?_) (a' := ?_) #[true, true, true, true, false, true, false, false, false, false, false, false, false, false, false] rfl rfl (any_of HT_.out (by kernel_rfl)) (fun _ _ _ h => h) (Or.inl ⟨by rfl, ?_⟩) ?_ ?_
                rotate_left
                · intro w'
                  go_simp
                  with_reducible rfl
                rotate_left
                · simp only [Act.put, List.setIfInBounds_toArray, List.set_cons_zero, List.set_cons_succ]
                  rfl
                refine pure_ (i := 6) (N := some 87) (v := ?_) (a' := ?_) #[true, true, true, true, false, true, true, false, false, false, false, false, false, false, false] rfl rfl (any_of HT_.out (by kernel_rfl)) (fun _ _ _ h => h) (Or.inl ⟨by rfl, ?_⟩) ?_ ?_
                rotate_left
                · intro w'
                  go_simp
                  with_reducible rfl
                rotate_left
                · simp only [Act.put, List.setIfInBounds_toArray, List.set_cons_zero, List.set_cons_succ]
                  rfl
                refine pure_ (i := 7) (N := some 88) (v := ?_) (a' := ?_) #[true, true, true, true, false, true, true, true, false, false, false, false, false, false, false] rfl rfl (any_of HT_.out (by kernel_rfl)) (fun _ _ _ h => h) (Or.inl ⟨by rfl, ?_⟩) ?_ ?_
                rotate_left
                · intro w'
                  go_simp
                  with_reducible rfl
                rotate_left
                · simp only [Act.put, List.setIfInBounds_toArray, List.set_cons_zero, List.set_cons_succ]
                  rfl
                refine take_ (i := 4) (N := some 85) (v := ?_) (a' := ?_) #[true, true, true, true, true, true, true, true, false, false, false, false, false, false, false] rfl rfl (take_ofW HT_.out HW_.out (by kernel_rfl)) (fun _ _ _ h => h) (Or.inl ⟨by rfl, ?_⟩) hHeld ?_ ?_
                rotate_left
                · intro w' hkt
                  have s0 := (hkt.row HR.out).cell 1
                  simp only [List.getElem?_cons_succ, List.getElem?_cons_zero] at s0
                  have s1 := (HW.out.keep (hkt.block g (Nat.lt_of_lt_of_le HGS.out HA.out.size) (fun e => e))).at_ htl
                  rw [HX.out] at s1
                  go_simp
                  with_reducible rfl
                rotate_left
                · simp only [Act.put, List.setIfInBounds_toArray, List.set_cons_zero, List.set_cons_succ]
                  rfl
                refine take_ (i := 8) (N := some 89) (v := ?_) (a' := ?_) #[true, true, true, true, true, true, true, true, true, false, false, false, false, false, false] rfl rfl (take_ofW HT_.out HW_.out (by kernel_rfl)) (fun _ _ _ h => h) (Or.inl ⟨by rfl, ?_⟩) hHeld ?_ ?_
                rotate_left
                · intro w' hkt
                  have s0 := (hkt.row HR.out).cell 1
                  simp only [List.getElem?_cons_succ, List.getElem?_cons_zero] at s0
                  have s1 := (HW.out.keep (hkt.block g (Nat.lt_of_lt_of_le HGS.out HA.out.size) (fun e => e))).at_ htl
                  rw [HX.out] at s1
                  go_simp
                  with_reducible rfl
                rotate_left
                · simp only [Act.put, List.setIfInBounds_toArray, List.set_cons_zero, List.set_cons_succ]
                  rfl
                refine pure_ (i := 9) (N := some 90) (v := ?_) (a' := ?_) #[true, true, true, true, true, true, true, true, true, true, false, false, false, false, false] rfl rfl (any_of HT_.out (by kernel_rfl)) (fun _ _ _ h => h) (Or.inl ⟨by rfl, ?_⟩) ?_ ?_
                rotate_left
                · intro w'
                  go_simp
                  with_reducible rfl
                rotate_left
                · simp only [Act.put, List.setIfInBounds_toArray, List.set_cons_zero, List.set_cons_succ]
                  rfl
                refine one_ (i := 10) (N := some 91) #[true, true, true, true, true, true, true, true, true, true, true, false, false, false, false] rfl rfl (one_of HT_.out (by kernel_rfl)) (by decide) (fun K hK => ?_)
                refine gives_ (v := .slice (some ⟨wd.heap.size, 0, none⟩) 1 1) (w1 := wd.alloc (.cells #[.int .i32 x] 76)) (by rfl) rfl (by go_simp) ?_
                have hHeld0 := hHeld
                refine hK.out _ _ (hHeld0.alloc _) (fun hHeld => ?_)
                clear hK K
                refine norm_ (a' := ?_) ?_ ?_
                rotate_left
                · show Act.put _ (some 91) _ = _
                  simp only [Act.put, List.setIfInBounds_toArray, List.set_cons_zero, List.set_cons_succ]
                  rfl
                have hown := own_new HO.out hHeld
                have hel := elems_new wd 76 (.int .i32 x)
                have hsz := Nat.le_trans HS.out hHeld.size
                obtain ⟨v', w3, hrun, ho3, hg3, hb3⟩ := run_append_elems2 (P := Try.prog) (wd.alloc (.cells #[.int .i32 x] 76)) zb 40 40 76 i0 (.int .i32 0) 1 4 Try.underlying40 hi0 hz0 hz1 hz2 rfl (by decide) _ _ _ hown _ _ 1 1 _ hel rfl (by intro y hy; simp at hy; subst hy; rfl) (by unfold maxLen; omega) (by omega) hsz
                obtain ⟨A8, c8, hv8⟩ := own_form ho3
                subst hv8
                obtain ⟨r1, r2, r3, r4, r5, c3, f3⟩ := made_step HR.out HO.out HW.out HA.out HGS.out HZB.out HS.out hHeld hg3 ho3
                have R1 := Lib.hid r1
                have R2 := Lib.hid r2
                have R3 := Lib.hid r3
                have R4 := Lib.hid r4
                have R5 := Lib.hid r5
                clear r1 r2 r3 r4 r5
                refine last_ (i := 11) (N := some 92) #[true, true, true, true, true, true, true, true, true, true, true, true, false, false, false] rfl rfl (one_of HT_.out (by kernel_rfl)) (by decide) (fun K hK => ?_)
                refine gives_ (v := .slice A8 (t + 1) c8) (w1 := w3) (by rfl) rfl (exec_app rfl rfl rfl hrun) ?_
                refine hK.out _ _ ?_
                clear hK K
                refine norm_ (a' := ?_) ?_ ?_
                rotate_left
                · show Act.put _ (some 92) _ = _
                  simp only [Act.put, List.setIfInBounds_toArray, List.set_cons_zero, List.set_cons_succ]
                  rfl
                refine pure_ (i := 12) (N := some 93) (v := ?_) (a' := ?_) #[true, true, true, true, true, true, true, true, true, true, true, true, true, false, false] rfl rfl (any_of HT_.out (by kernel_rfl)) (fun _ _ _ h => h) (Or.inl ⟨by rfl, ?_⟩) ?_ ?_
                rotate_left
                · intro w'
                  go_simp
                  with_reducible rfl
                rotate_left
                · simp only [Act.put, List.setIfInBounds_toArray, List.set_cons_zero, List.set_cons_succ]
                  rfl
                refine pure_ (i := 13) (N := some 94) (v := ?_) (a' := ?_) #[true, true, true, true, true, true, true, true, true, true, true, true, true, true, false] rfl rfl (any_of HT_.out (by kernel_rfl)) (fun _ _ _ h => h) (Or.inl ⟨by rfl, ?_⟩) ?_ ?_
                rotate_left
                · intro w'
                  go_simp
                  with_reducible rfl
                rotate_left
                · simp only [Act.put, List.setIfInBounds_toArray, List.set_cons_zero, List.set_cons_succ]
                  rfl
                refine last_ (i := 14) (N := none) #[true, true, true, true, true, true, true, true, true, true, true, true, true, true, true] rfl rfl (one_of HT_.out (by kernel_rfl)) (by decide) (fun K hK => ?_)
                refine skip_ (w1 := w3.setCell ⟨zb, 1, none⟩ (.slice A8 (t + 1) c8)) (by rfl) rfl (by go_simp) ?_
                refine hK.out _ _ ?_
                clear hK K
                refine done_ (done_of HT_.out (by kernel_rfl)) ?_
                go_wp2_with fail
                refine ⟨⟨t + 1, _, by omega, by go_num, R1.out, ?_, HOK2.out, R3.out, R4.out, R5.out⟩, by simp [intOf] <;> omega⟩
                have h1 := R2.out
                show World.ownsRow _ _ _ _ _ _ _
                unfold ints32 at h1 ⊢
                rw [HSU.out]
                exact h1
          · have hte : t = m := by omega
            have htz : ¬ (t : Int) < m := by omega
            obtain ⟨Z, hZ⟩ := zoneL_all (n := n) (A := A) (fun s hs => HOK.out s (by rw [hte, ← HMZ.out]; exact hs))
            have hzo := zoneOf_some HCC.out hZ
            have h1 := HO.out
            rw [hte, List.take_of_length_le (by rw [List.length_map, dense_length, HMZ.out]; exact Nat.le_refl _), ← dense_out hn hZ] at h1
            obtain ⟨A7, c7, hv7⟩ := own_form h1
            subst hv7
            have href : RefAt wr zb ⟨n, Z⟩ := ⟨⟨A7, c7, by rw [show ((Zn.mk n Z).n + 1) * ((Zn.mk n Z).n + 1) = m from HMZ.out]; exact HR.out, elemsT_of_own h1⟩, hn, zoneL_length _ _ _ hZ⟩
            have HREF := Lib.hid href
            have HZO := Lib.hid hzo
            clear hZ hzo h1 href hte
            go_wp2_with fail
            go_ret2
            exact ⟨by rw [HMM.out, HZO.out]; exact ⟨zb, rfl, HZB.out, HREF.out⟩, HA.out⟩
end Go.Proofs.Ytapfihlgemejiaa
namespace Go.Proofs.Ytapfihlgemejiaa
open Go.RowKit
theorem rtdiv2 (a : Int) (h : Int.tmod a 2 = 0) : Int.tdiv a 2 = a / 2 := by
  have h1 := Int.tdiv_eq_ediv (a := a) (b := 2)
  rcases rtmod2 a with ⟨h2, _⟩ | ⟨_, h2 | h2⟩
  · split at h1
    · omega
    · omega
  · omega
  · omega
set_option maxRecDepth 100000 in
set_option maxHeartbeats 4000000 in
theorem rnumber_any (x : Int) (w : World) (h : -2147483648 ≤ x ∧ x ≤ 2147483647) : Calls Try.prog 179 #[.int .i32 x] w fun e w' => e = .returned (.int .i64 (x / 2)) ∧ w = w' := by
  have w1 : IntKind.i64.wrap x = x := by rw [IntKind.wrap_i64]; omega
  have w2 : IntKind.i64.wrap (x - 1) = x - 1 := by rw [IntKind.wrap_i64]; omega
  have w3 : IntKind.i64.wrap (x / 2) = x / 2 := by rw [IntKind.wrap_i64]; omega
  rcases rtmod2 x with ⟨p, q⟩ | ⟨p, q | q⟩
  · have d := rtdiv2 x q
    clear p
    go_enter Try.func179, Try.ntmps179
    go_wp2
    go_ret
    exact ⟨rfl, rfl⟩
  · have d := rtdiv2 (x - 1) (by rcases rtmod2 (x - 1) with ⟨_, h⟩ | ⟨h, _⟩; exact h; omega)
    have e : (x - 1) / 2 = x / 2 := by omega
    rw [e] at d
    clear p e
    go_enter Try.func179, Try.ntmps179
    go_wp2
    go_ret
    exact ⟨rfl, rfl⟩
  · have d := rtdiv2 (x - 1) (by rcases rtmod2 (x - 1) with ⟨_, h⟩ | ⟨h, _⟩; exact h; omega)
    have e : (x - 1) / 2 = x / 2 := by omega
    rw [e] at d
    clear p e
    go_enter Try.func179, Try.ntmps179
    go_wp2
    go_ret
    exact ⟨rfl, rfl⟩
set_option maxRecDepth 100000 in
set_option maxHeartbeats 4000000 in
theorem rright_any (x : Int) (w : World) (h : -2147483648 ≤ x ∧ x ≤ 2147483647) : Calls Try.prog 143 #[.int .i32 x] w fun e w' => e = .returned (.bool (rightB x)) ∧ w = w' := by
  have N := Lib.hid (rnumber_any x w h)
  by_cases hi : x = 2147483647
  · subst hi
    have hr : rightB 2147483647 = true := by decide
    rw [hr]
    go_enter Try.func143, Try.ntmps143
    go_wp2
    go_ret
    exact ⟨rfl, rfl⟩
  · have hi' : (x == 2147483647) = false := by simpa using hi
    by_cases h1 : -268435456 ≤ x / 2
    · have hr : rightB x = decide (x / 2 ≤ 268435456) := by
        unfold rightB INF
        by_cases h2 : x / 2 ≤ 268435456
        · rw [decide_eq_true h2, decide_eq_true (.inr (by omega))]
        · rw [decide_eq_false h2, decide_eq_false (by omega)]
      rw [hr]
      clear hr hi
      go_enter Try.func143, Try.ntmps143
      go_wp2_with fail
      refine N.out.mono ?_
      rintro e w' ⟨rfl, rfl⟩
      go_wp2_with fail
      refine N.out.mono ?_
      rintro e w' ⟨rfl, rfl⟩
      go_wp2_with fail
      go_ret
      exact ⟨rfl, rfl⟩
    · have hr : rightB x = false := by unfold rightB INF; exact decide_eq_false (by omega)
      rw [hr]
      clear hr hi
      go_enter Try.func143, Try.ntmps143
      go_wp2_with fail
      refine N.out.mono ?_
      rintro e w' ⟨rfl, rfl⟩
      go_wp2_with fail
      go_ret
      exact ⟨rfl, rfl⟩
end Go.Proofs.Ytapfihlgemejiaa
namespace Go.Proofs.Ytapfihlgemejiaa
theorem low1_form (i : Nat) (hi : i ≤ 8) {L : List Int} (hL : L.length = 81) (t : Nat) : gt (low1 i L) t = if (t = 10 * i ∨ t = i) ∧ 1 < gt L t then 1 else gt L t := by
  have h1 : ∀ M : List Int, M.length = 81 → gt (if 1 < gt M i then st M i 1 else M) t = if t = i ∧ 1 < gt M t then 1 else gt M t := fun M hM => by
    split
    · rename_i h
      rw [gt_st _ _ _ _ (by omega)]
      by_cases e : t = i
      · subst e; rw [if_pos rfl, if_pos ⟨rfl, h⟩]
      · rw [if_neg e, if_neg (by omega)]
    · rename_i h
      rw [if_neg (by rintro ⟨rfl, h2⟩; exact h h2)]
  unfold low1
  simp only
  split
  · rename_i h
    rw [h1 _ (by rw [st_length]; exact hL), gt_st _ _ _ _ (by omega)]
    by_cases e : t = 10 * i
    · subst e
      rw [if_pos rfl, if_neg (by omega), if_pos ⟨.inl rfl, h⟩]
    · rw [if_neg e]
      by_cases e2 : t = i ∧ 1 < gt L t
      · rw [if_pos e2, if_pos ⟨.inr e2.1, e2.2⟩]
      · rw [if_neg e2, if_neg (by rintro ⟨e3 | e3, h3⟩; exact e e3; exact e2 ⟨e3, h3⟩)]
  · rename_i h
    rw [h1 _ hL]
    by_cases e2 : t = i ∧ 1 < gt L t
    · rw [if_pos e2, if_pos ⟨.inr e2.1, e2.2⟩]
    · rw [if_neg e2, if_neg (by rintro ⟨e3 | e3, h3⟩; subst e3; exact h h3; exact e2 ⟨e3, h3⟩)]
theorem lpLow_length (m : Nat) (L : List Int) : (lp low1 m L).length = L.length := lp_length _ low1_length _ _
theorem lowL_form {n : Nat} (hn : n ≤ 8) {L : List Int} (hL : L.length = 81) : ∀ m, m ≤ n + 1 → ∀ t, gt (lp low1 m L) t = if (∃ i, i < m ∧ (t = 10 * i ∨ t = i)) ∧ 1 < gt L t then 1 else gt L t
  | 0, _, t => by rw [if_neg (by rintro ⟨⟨i, hi, _⟩, _⟩; omega)]; rfl
  | m + 1, hm, t => by
    have ih := lowL_form hn hL m (by omega) t
    show gt (low1 m (lp low1 m L)) t = _
    rw [low1_form m (by omega) (by rw [lpLow_length]; exact hL), ih]
    by_cases h : (∃ i, i < m ∧ (t = 10 * i ∨ t = i)) ∧ 1 < gt L t
    · obtain ⟨⟨i, hi, hti⟩, hlt⟩ := h
      have hC : (∃ i, i < m ∧ (t = 10 * i ∨ t = i)) ∧ 1 < gt L t := ⟨⟨i, hi, hti⟩, hlt⟩
      have hD : (∃ i, i < m + 1 ∧ (t = 10 * i ∨ t = i)) ∧ 1 < gt L t := ⟨⟨i, by omega, hti⟩, hlt⟩
      rw [if_pos hC, if_pos hD, if_neg (show ¬ ((t = 10 * m ∨ t = m) ∧ (1 : Int) < 1) by omega)]
    · rw [if_neg h]
      by_cases h2 : (t = 10 * m ∨ t = m) ∧ 1 < gt L t
      · rw [if_pos h2, if_pos ⟨⟨m, by omega, h2.1⟩, h2.2⟩]
      · rw [if_neg h2, if_neg ?_]
        rintro ⟨⟨i, hi, hti⟩, hlt⟩
        by_cases e : i = m
        · subst e; exact h2 ⟨hti, hlt⟩
        · exact h ⟨⟨i, by omega, hti⟩, hlt⟩
/-- What the program's cells hold, from the bound that is laid there. -/
def lowW (p q : Nat) (x : Int) : Int := if (p = q ∨ p = 0) ∧ 1 < x then 1 else x
theorem lowL_cell {n : Nat} (hn : n ≤ 8) {L : List Int} (hL : L.length = 81) {p q : Nat} (hp : p ≤ n) (hq : q ≤ n) : gt (lowL n L) (9 * p + q) = lowW p q (gt L (9 * p + q)) := by
  unfold lowL lowW
  rw [lowL_form hn hL (n + 1) (Nat.le_refl _)]
  by_cases h : (p = q ∨ p = 0) ∧ 1 < gt L (9 * p + q)
  · rw [if_pos h, if_pos]
    refine ⟨?_, h.2⟩
    rcases h.1 with rfl | rfl
    · exact ⟨p, by omega, .inl (by omega)⟩
    · exact ⟨q, by omega, .inr (by omega)⟩
  · rw [if_neg h, if_neg]
    rintro ⟨⟨i, hi, hti⟩, hlt⟩
    refine h ⟨?_, hlt⟩
    rcases hti with e | e
    · left; omega
    · right; omega
theorem lowL_out {n : Nat} (hn : n ≤ 8) {L : List Int} (hL : L.length = 81) {t : Nat} (h : gt L t = 0) : gt (lowL n L) t = 0 := by
  unfold lowL
  rw [lowL_form hn hL (n + 1) (Nat.le_refl _), h, if_neg (by omega)]
theorem gt_ext {L M : List Int} (h1 : L.length = 81) (h2 : M.length = 81) (h : ∀ p q, p ≤ 8 → q ≤ 8 → gt L (9 * p + q) = gt M (9 * p + q)) : L = M := by
  apply List.ext_getElem (by omega)
  intro t ha hb
  have := h (t / 9) (t % 9) (by omega) (by omega)
  rw [show 9 * (t / 9) + t % 9 = t by omega] at this
  unfold gt at this
  rw [List.getD_eq_getElem?_getD, List.getD_eq_getElem?_getD, List.getElem?_eq_getElem ha, List.getElem?_eq_getElem hb] at this
  exact this
theorem keepL_cell {L : List Int} (hL : L.length = 81) {i j : Nat} (hi : i ≤ 8) (hj : j ≤ 8) (b : Int) {p q : Nat} (hq : q ≤ 8) :
    gt (keepL L i j b) (9 * p + q) = if p = i ∧ q = j ∧ b ≠ INF then mn (gt L (9 * p + q)) b else gt L (9 * p + q) := by
  unfold keepL
  split
  · rename_i e; rw [if_neg (by omega)]
  · rename_i e
    rw [gt_st _ _ _ _ (by omega)]
    by_cases h : 9 * p + q = 9 * i + j
    · have h2 : p = i ∧ q = j := by omega
      obtain ⟨rfl, rfl⟩ := h2
      rw [if_pos rfl, if_pos ⟨rfl, rfl, e⟩]
    · rw [if_neg h, if_neg (by rintro ⟨rfl, rfl, _⟩; exact h rfl)]
theorem mn_low {p q : Nat} {b : Int} (hb : b < NONE) (hi : b ≠ INF) : mn (if p = q ∨ p = 0 then 1 else NONE) b = lowW p q (wideV b) := by
  unfold mn lowW wideV
  rw [if_neg hi]
  by_cases h : p = q ∨ p = 0
  · rw [if_pos h]
    split
    · rw [if_neg (by omega)]
    · by_cases h2 : 1 < b
      · rw [if_pos ⟨h, h2⟩]
      · rw [if_neg (by omega)]; omega
  · rw [if_neg h, if_pos hb, if_neg (by rintro ⟨h2, _⟩; exact h h2)]
theorem low_inf (p q : Nat) : (if p = q ∨ p = 0 then 1 else NONE) = lowW p q (wideV INF) := by
  unfold lowW wideV
  rw [if_pos rfl]
  by_cases h : p = q ∨ p = 0
  · rw [if_pos h, if_pos ⟨h, by decide⟩]
  · rw [if_neg h, if_neg (by rintro ⟨h2, _⟩; exact h h2)]
theorem right_lt {b : Int} (h : rightB b = true) : b < NONE ∧ b ≤ INF := by
  unfold rightB INF at h
  unfold NONE INF
  simp only [decide_eq_true_eq] at h
  omega
/-- The dense bounds, all right: what the program makes of them is what the document does. -/
theorem ofL_low {n : Nat} (hn : n ≤ 8) {cells : List Int} (hl : cells.length = (n + 1) * (n + 1)) (hr : ∀ x ∈ cells, rightB x = true) : ofL n cells = some (lowL n (spread n (cells.map wideV))) := by
  have step : ∀ m, m ≤ cells.length → ∃ L, lpO (fun t L => if rightB (gt cells t) then some (keepL L (t / (n + 1)) (t % (n + 1)) (gt cells t)) else none) m (openL n) = some L ∧ L.length = 81 ∧
      ∀ p q, p ≤ 8 → q ≤ 8 → gt L (9 * p + q) = if p ≤ n ∧ q ≤ n then (if p * (n + 1) + q < m then lowW p q (wideV (gt cells (p * (n + 1) + q))) else if p = q ∨ p = 0 then 1 else NONE) else 0 := by
    intro m
    induction m with
    | zero =>
      intro _
      refine ⟨_, rfl, openL_length n, fun p q hp hq => ?_⟩
      rw [open_form n hn p q (by omega)]
      simp
    | succ m ih =>
      intro hm
      obtain ⟨L, h1, h2, h3⟩ := ih (by omega)
      have hrt := hr _ (gt_mem (l := cells) (t := m) (by omega))
      obtain ⟨a, b, e⟩ := split_at (n := n) (t := m) (by omega)
      refine ⟨keepL L (m / (n + 1)) (m % (n + 1)) (gt cells m), by rw [lpO_succ, h1]; show (if rightB (gt cells m) = true then _ else _) = _; rw [if_pos hrt], by rw [keepL_length]; exact h2, fun p q hp hq => ?_⟩
      rw [keepL_cell h2 (by omega) (by omega) _ hq, h3 p q hp hq]
      by_cases hin : p ≤ n ∧ q ≤ n
      · rw [if_pos hin, if_pos hin]
        by_cases hpq : p = m / (n + 1) ∧ q = m % (n + 1)
        · have hidx : p * (n + 1) + q = m := by rw [hpq.1, hpq.2]; exact e.symm
          rw [hidx, if_neg (Nat.lt_irrefl m), if_pos (Nat.lt_succ_self m)]
          by_cases hI : gt cells m = INF
          · rw [if_neg (by rintro ⟨_, _, h⟩; exact h hI), hI, low_inf]
          · rw [if_pos ⟨hpq.1, hpq.2, hI⟩, mn_low (right_lt hrt).1 hI]
        · have hne : p * (n + 1) + q ≠ m := fun h => by
            rw [e] at h
            exact hpq (at_inj hin.2 b h)
          rw [if_neg (by rintro ⟨h4, h5, _⟩; exact hpq ⟨h4, h5⟩)]
          by_cases hlt : p * (n + 1) + q < m
          · rw [if_pos hlt, if_pos (show p * (n + 1) + q < m + 1 by omega)]
          · rw [if_neg hlt, if_neg (show ¬ p * (n + 1) + q < m + 1 by omega)]
      · rw [if_neg hin, if_neg hin, if_neg (by rintro ⟨rfl, rfl, _⟩; exact hin ⟨a, b⟩)]
  obtain ⟨L, h1, h2, h3⟩ := step cells.length (Nat.le_refl _)
  unfold ofL
  rw [h1]
  congr 1
  have hsl := spread_length n (cells.map wideV)
  refine gt_ext h2 (by unfold lowL; rw [lpLow_length]; exact hsl) (fun p q hp hq => ?_)
  rw [h3 p q hp hq]
  by_cases hin : p ≤ n ∧ q ≤ n
  · rw [if_pos hin, lowL_cell hn hsl hin.1 hin.2, spread_gt hn hin.1 hin.2, if_pos (by rw [hl]; exact at_lt hin.1 hin.2)]
    congr 1
    have hlt : p * (n + 1) + q < cells.length := by rw [hl]; exact at_lt hin.1 hin.2
    unfold gt
    rw [List.getD_eq_getElem?_getD, List.getD_eq_getElem?_getD, List.getElem?_map, List.getElem?_eq_getElem hlt]
    rfl
  · rw [if_neg hin, lowL_out hn hsl (spread_out hp hq hin)]
end Go.Proofs.Ytapfihlgemejiaa
namespace Go.Proofs.Ytapfihlgemejiaa
open Go.RowKit
theorem spread_bd {n : Nat} (hn : n ≤ 8) {cells : List Int} (hl : cells.length = (n + 1) * (n + 1)) (hr : ∀ x ∈ cells, rightB x = true) : AllLt n 536870913 (spread n (cells.map wideV)) := by
  refine ⟨spread_length _ _, fun p q hp hq => ?_⟩
  rw [spread_gt hn hp hq]
  have hlt : p * (n + 1) + q < cells.length := by rw [hl]; exact at_lt hp hq
  have h1 := hr _ (gt_mem hlt)
  have e : gt (cells.map wideV) (p * (n + 1) + q) = wideV (gt cells (p * (n + 1) + q)) := by
    unfold gt
    rw [List.getD_eq_getElem?_getD, List.getD_eq_getElem?_getD, List.getElem?_map, List.getElem?_eq_getElem hlt]
    rfl
  rw [e]
  unfold wideV
  split
  · exact .inl rfl
  · rename_i hne
    unfold rightB at h1
    simp only [decide_eq_true_eq] at h1
    exact .inr (by rcases h1 with h1 | h1; exact absurd h1 hne; omega)
theorem ofL_bad {n : Nat} {cells : List Int} {t : Nat} (ht : t < cells.length) (h : rightB (gt cells t) = false) : ofL n cells = none := by
  have e : lpO (fun t L => if rightB (gt cells t) then some (keepL L (t / (n + 1)) (t % (n + 1)) (gt cells t)) else none) (t + 1) (openL n) = none := by
    rw [lpO_succ]
    cases lpO (fun t L => if rightB (gt cells t) then some (keepL L (t / (n + 1)) (t % (n + 1)) (gt cells t)) else none) t (openL n) with
    | none => rfl
    | some L => show (if rightB (gt cells t) = true then _ else _) = _; rw [h]; rfl
  exact lpO_none _ _ _ _ e (by omega)
set_option maxRecDepth 100000 in
set_option maxHeartbeats 4000000 in
theorem rof_any (n : Int) (A : Option Addr) (c : Nat) (cells : List Int) (w : World) (hA : Elems w w.heap.size A (ints32 cells)) (hr : ∀ x ∈ cells, -2147483648 ≤ x ∧ x ≤ 2147483647) (hlen : cells.length ≤ 140737488355328) :
    Calls Try.prog 68 #[.int .i64 n, .slice A cells.length c] w fun e w' => RRet w n.toNat (ofZ n cells) e w' ∧ New w w' := by
  have HA := Lib.hid hA
  have HR := Lib.hid hr
  clear hA hr
  obtain ⟨m, hm⟩ : ∃ m, cells.length = m := ⟨_, rfl⟩
  rw [hm] at hlen ⊢
  have HM := Lib.hid hm
  clear hm
  by_cases hf : 0 ≤ n ∧ n ≤ 8
  · obtain ⟨k, rfl⟩ := Int.eq_ofNat_of_zero_le hf.1
    have hk : k ≤ 8 := by omega
    have hfb : fewB (k : Int) = true := by unfold fewB; exact decide_eq_true (by omega)
    obtain ⟨q, hq⟩ : ∃ q, (k + 1) * (k + 1) = q := ⟨_, rfl⟩
    have hq81 : q ≤ 81 := by
      have h1 : (k + 1) * (k + 1) ≤ 9 * 9 := Nat.mul_le_mul (by omega) (by omega)
      omega
    have hq1 : 0 < (k + 1) * (k + 1) := Nat.mul_pos (Nat.succ_pos k) (Nat.succ_pos k)
    rw [hq] at hq1
    have HQ1 := Lib.hid hq1
    clear hq1
    have hqi : ((k : Int) + 1) * ((k : Int) + 1) = (q : Int) := by rw [← hq]; push_cast; rfl
    have w1 : IntKind.i64.wrap ((k : Int) + 1) = (k : Int) + 1 := by rw [IntKind.wrap_i64]; omega
    have w2 : IntKind.i64.wrap (((k : Int) + 1) * ((k : Int) + 1)) = (q : Int) := by rw [hqi, IntKind.wrap_i64]; omega
    have HQ := Lib.hid hq
    have HQI := Lib.hid hqi
    have HFB := Lib.hid hfb
    have hk0 : (0 : Int) ≤ (k : Int) := by omega
    have hk8 : (k : Int) ≤ 8 := by omega
    clear hq hqi hfb hf
    by_cases hmq : m = q
    · subst hmq
      go_enter Try.func68, Try.ntmps68
      go_wp2_with fail
      go_loopw [6] (fun cv wr => wr = w ∧ ∃ t : Nat, t ≤ m ∧ cv = .int .i64 t ∧ Hid (∀ s, s < t → rightB (gt cells s) = true))
        (fun cv _ => m - (intOf cv).toNat)
      case atStart => exact ⟨rfl, 0, Nat.zero_le _, by go_num, fun s hs => absurd hs (Nat.not_lt_zero _)⟩
      case round =>
        obtain ⟨rfl, t, ht, rfl, HOK⟩ := hrel
        by_cases htl : t < m
        · have htz : (t : Int) < m := by omega
          have htl' : t < cells.length := by rw [HM.out]; exact htl
          obtain ⟨b, off, hAe, hb, hc⟩ := HA.out.ints (k := .i32) t htl'
          subst hAe
          obtain ⟨x, hx⟩ : ∃ x, gt cells t = x := ⟨_, rfl⟩
          rw [hx] at hc
          have RX := Lib.hid (rright_any x wr (hx ▸ HR.out _ (gt_mem htl')))
          have HX := Lib.hid hx
          clear hx hb
          cases hrb : rightB x with
          | false =>
            rw [hrb] at RX
            have hno := ofZ_form (n := k) (cells := cells) HFB.out (by rw [HM.out, HQI.out]) (ofL_bad htl' (by rw [HX.out]; exact hrb))
            have HNO := Lib.hid hno
            clear hno hrb
            go_wp2_with fail
            refine RX.out.mono ?_
            rintro e w' ⟨rfl, rfl⟩
            go_wp2_with fail
            go_ret2
            exact ⟨by rw [HNO.out]; rfl, New.refl _⟩
          | true =>
            rw [hrb] at RX
            have HRB := Lib.hid hrb
            clear hrb
            go_wp2_with fail
            refine RX.out.mono ?_
            rintro e w' ⟨rfl, rfl⟩
            go_wp2_with fail
            exact ⟨⟨trivial, t + 1, by omega, by go_num, fun s hs => by
              by_cases e : s = t
              · subst e; rw [HX.out]; exact HRB.out
              · exact HOK.out s (by omega)⟩, by simp [intOf] <;> omega⟩
        · have htz : ¬ (t : Int) < m := by omega
          have hall : ∀ x ∈ cells, rightB x = true := fun x hx => by
            obtain ⟨s, hs, e⟩ := List.getElem_of_mem hx
            have h1 := HOK.out s (by have := HM.out; omega)
            unfold gt at h1
            rw [List.getD_eq_getElem?_getD, List.getElem?_eq_getElem hs] at h1
            rw [← e]; exact h1
          have hl : cells.length = (k + 1) * (k + 1) := by rw [HM.out, HQ.out]
          have hof : ofZ (k : Int) cells = zoneOf k (lowL k (spread k (cells.map wideV))) := ofZ_some HFB.out (by rw [HM.out, HQI.out]) (ofL_low hk hl hall)
          have hw := rwide_any A c cells wr HA.out (by rw [HM.out]; exact hq81) hall
          rw [HM.out] at hw
          have HW := Lib.hid hw
          have HBD := Lib.hid (spread_bd hk hl hall)
          have HDS : Hid (dense k (spread k (cells.map wideV)) = cells.map wideV) := dense_spread hk (by rw [List.length_map]; exact hl)
          have HOF := Lib.hid hof
          clear hw hof hall hl
          go_wp2_with fail
          refine HW.out.mono ?_
          rintro e w5 ⟨v, rfl, ho, hn5⟩
          rw [← HDS.out] at ho
          obtain ⟨A5, c5, hv5⟩ := own_form ho
          subst hv5
          obtain ⟨g5, hA5, hg5, hg5l, _, _⟩ := own_cell ho (by rw [ints64_length, dense_length, HQ.out]; exact HQ1.out)
          subst hA5
          have HMD := Lib.hid (rmade_any wr.heap.size g5 k m c5 (spread k (cells.map wideV)) w5 hk HBD.out ⟨HQ.out, ho⟩)
          have HN5 := Lib.hid hn5
          have HG5 := Lib.hid hg5
          clear ho hn5 hg5 hg5l HW
          go_wp2_with fail
          refine HMD.out.mono ?_
          rintro e w6 ⟨hz6, ha6⟩
          rw [← HOF.out] at hz6
          have HN6 := Lib.hid (HN5.out.at_ ha6 HG5.out)
          cases hzq : ofZ (k : Int) cells with
          | err cc =>
            rw [hzq] at hz6
            have hz6 : e = .returned (.tuple #[.pointer none, .int .i64 cc]) := hz6
            subst hz6
            have HZQ := Lib.hid hzq
            clear hzq ha6
            go_wp2_with fail
            go_ret2
            exact ⟨by rw [HZQ.out]; rfl, HN6.out⟩
          | ok Z =>
            rw [hzq] at hz6
            obtain ⟨b, rfl, hb, hrf⟩ := hz6
            have HZQ := Lib.hid hzq
            have HB2 := Lib.hid (Nat.le_trans HN5.out.size hb)
            have HRF := Lib.hid hrf
            clear hzq ha6 hb hrf
            go_wp2_with fail
            go_ret2
            exact ⟨by rw [HZQ.out]; exact ⟨b, rfl, HB2.out, HRF.out⟩, HN6.out⟩
    · have hof : ofZ (k : Int) cells = .err 6 := by
        unfold ofZ
        rw [if_neg (by rw [HFB.out]; decide), if_pos (by rw [HM.out, HQI.out]; omega)]
      have HOF := Lib.hid hof
      have hmz : ((m : Int) == (q : Int)) = false := by simp; omega
      clear hof hmq
      go_enter Try.func68, Try.ntmps68
      go_wp2_with fail
      go_ret2
      exact ⟨by rw [HOF.out]; rfl, New.refl _⟩
  · have hof : ofZ n cells = .err 12 := by
      unfold ofZ fewB
      rw [if_pos (decide_eq_false hf)]
    have HOF := Lib.hid hof
    clear hof
    by_cases h0 : n < 0
    · clear hf
      go_enter Try.func68, Try.ntmps68
      go_wp2_with fail
      go_ret2
      exact ⟨by rw [HOF.out]; rfl, New.refl _⟩
    · have h8 : 8 < n := by omega
      clear hf
      go_enter Try.func68, Try.ntmps68
      go_wp2_with fail
      go_ret2
      exact ⟨by rw [HOF.out]; rfl, New.refl _⟩
end Go.Proofs.Ytapfihlgemejiaa
