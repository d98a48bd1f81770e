/- Walks over package ops: is, isAny, set, Up, Reset. -/
import Derived.Test.YtapfihlgemejiaaY4
import Derived.Test.YtapfihlgemejiaaY5
import Derived.Test.YtapfihlgemejiaaY6
namespace Go.Proofs.Ytapfihlgemejiaa
open Go.RowKit

set_option maxHeartbeats 1000000 in
theorem is_yes (n c : Int) (h1 : 1 ≤ c) (h2 : c ≤ n) (w : World) :
    Calls Try.prog 169 #[.agg #[.int .i64 n], .int .i64 c] w fun e w' => e = .returned (.bool true) ∧ New w w' := by
  go_enter Try.func169, Try.ntmps169
  go_wp2_with fail
  go_ret
  exact ⟨rfl, (New.refl w).alloc _⟩
set_option maxHeartbeats 1000000 in
theorem isAny_yes (n c : Int) (h1 : 0 ≤ c) (h2 : c ≤ n) (w : World) :
    Calls Try.prog 123 #[.agg #[.int .i64 n], .int .i64 c] w fun e w' => e = .returned (.bool true) ∧ New w w' := by
  by_cases h0 : c = 0
  · subst h0
    go_enter Try.func123, Try.ntmps123
    go_wp2_with fail
    go_ret
    exact ⟨rfl, (New.refl w).alloc _⟩
  · have h3 : (c == 0) = false := by simpa using h0
    have IS := Lib.hid (fun W => is_yes n c (by omega) h2 W)
    clear h1 h2 h0
    go_enter Try.func123, Try.ntmps123
    go_wp2_with fail
    refine (IS.out _).mono ?_
    rintro e w1 ⟨rfl, hn⟩
    have HN := Lib.hid (((New.refl w).alloc _).trans hn)
    clear hn IS
    go_wp2_with fail
    go_ret
    exact ⟨rfl, HN.out⟩
set_option maxHeartbeats 1000000 in
theorem set_ok (b : Nat) (z : Zn) (c m : Int) (h1 : 1 ≤ c) (h2 : c ≤ z.n) (h3 : 0 ≤ m) (h4 : m ≤ 1048576) (w : World) (h : ZoneAt w b z) :
    Calls Try.prog 120 #[.pointer (some ⟨b, 0, none⟩), .int .i64 c, .int .i64 m] w fun e w' => e = .returned (.int .i64 0) ∧ New w w' := by
  have HD := Lib.hid (dim_any b z w h)
  have IS := Lib.hid (fun W => is_yes z.n c h1 h2 W)
  clear h1 h2 h
  go_enter Try.func120, Try.ntmps120
  go_wp2_with fail
  refine HD.out.mono ?_
  rintro e w1 ⟨rfl, rfl⟩
  go_wp2_with fail
  refine (IS.out _).mono ?_
  rintro e w1 ⟨rfl, hn⟩
  have HN := Lib.hid hn
  clear hn IS HD
  go_wp2_with fail
  go_ret
  exact ⟨rfl, HN.out⟩

/-- What Up makes of the cells. -/
def upC (t : Nat) (L : List Int) : List Int := st L (9 * (t + 1)) INF
theorem upC_length (t : Nat) (L : List Int) : (upC t L).length = L.length := st_length _ _ _
set_option maxRecDepth 100000 in
set_option maxHeartbeats 2000000 in
theorem up_any (b : Nat) (z : Zn) (w : World) (h : ZoneAt w b z) (he : emptyB z.Z = false) :
    Calls Try.prog 51 #[.pointer (some ⟨b, 0, none⟩)] w fun e w' => ZRet w z.n (ofZ z.n (cellsOf ⟨z.n, lp upC z.n (openW z)⟩)) e w' ∧ New w w' := by
  have OP := Lib.hid (wopen_any b z w h)
  have EM := Lib.hid (fun W (hW : New w W) => empty_any b z W (h.new hW))
  rw [he] at EM
  have hdim := h.dim
  have HL0 := Lib.hid (openW_length z)
  clear h he
  go_enter Try.func51, Try.ntmps51
  go_wp2_with fail
  refine OP.out.mono ?_
  rintro e w1 ⟨g, rfl, hg, hr, hn1⟩
  have HR := Lib.hid hr
  have HN := Lib.hid hn1
  have HG := Lib.hid hg
  clear hr hn1 hg OP
  go_wp2_with fail
  refine (EM.out w1 HN.out).mono ?_
  rintro e w2 ⟨rfl, rfl⟩
  clear EM
  generalize hLz : openW z = L0 at *
  have HLZ := Lib.hid hLz
  clear hLz
  generalize hzn : z.n = n at *
  have HZN := Lib.hid hzn
  clear hzn
  have c0 := zone_dim HR.out
  go_wp2_with fail
  clear c0
  go_loopw [5] (fun ci wr => ∃ i : Nat, i ≤ n ∧ ci = .int .i64 ((i : Int) + 1) ∧ Hid (Row wr g 183 (zoneRow n (lp upC i L0)) ∧ New w wr)) (fun ci _ => n + 1 - (intOf ci).toNat)
  case atStart => exact ⟨0, Nat.zero_le _, by go_num, ⟨HR.out, HN.out⟩⟩
  case round =>
    obtain ⟨i, hi, rfl, HK⟩ := hrel
    clear HR HN
    have c0 := zone_dim HK.out.1
    have HS := Lib.hid (show lp upC (i + 1) L0 = st (lp upC i L0) (9 * (i + 1)) INF from rfl)
    have hML : (lp upC i L0).length = 81 := by rw [lp_length _ (fun i L => upC_length i L), HL0.out]
    generalize hM : lp upC i L0 = M at *
    have HM := Lib.hid hM
    clear hM
    by_cases hlt : i < n
    · have hltz : (i : Int) + 1 ≤ n := by omega
      have c1 := zone_at HK.out.1 (i + 1) 0 hML (by omega) (by omega)
      have f1 := HK.out.1.free (1 + (i + 1) * 9 + 0)
      have hs1 := zone_put HK.out.1 (i + 1) 0 INF
      have hn3 : New w (wr.setCell ⟨g, 1 + (i + 1) * 9 + 0, none⟩ (.int .i32 INF)) := HK.out.2.set (.inr HG.out) _
      have HQ := Lib.hid (And.intro hs1 hn3)
      have HL := Lib.hid hlt
      unfold INF at HQ
      simp only [Nat.add_zero] at c1 f1 HQ
      clear hs1 hn3 HK
      have e1 : ((i : Int) + 1).toNat = i + 1 := by omega
      go_wp2_with fail
      refine ⟨⟨i + 1, HL.out, by go_num, Lib.hid ?_⟩, by have := HL.out; simp [intOf] <;> omega⟩
      rw [HS.out]
      exact HQ.out
    · have hltz : ¬ (i : Int) + 1 ≤ n := by omega
      have e : i = n := by omega
      have hr := HK.out.1
      rw [← HM.out] at hr
      rw [e] at hr
      have SH := Lib.hid (shut_any g n (lp upC n L0) wr hr (by rw [lp_length _ (fun i L => upC_length i L), HL0.out]) hdim)
      have HN1 := Lib.hid HK.out.2
      clear hr e HK HM HS
      go_wp2_with fail
      refine SH.out.mono ?_
      rintro e w5 ⟨hz, hn5⟩
      have HN5 := Lib.hid (HN1.out.trans hn5)
      clear SH
      cases hq : ofZ n (cellsOf ⟨n, lp upC n L0⟩) with
      | err c =>
        rw [hq] at hz
        simp only [ZRet] at hz
        subst hz
        have HQ := Lib.hid hq
        clear hq hn5 HN1
        go_wp2_with fail
        go_ret2
        rw [HZN.out, HLZ.out, HQ.out]
        exact ⟨rfl, HN5.out⟩
      | ok Z =>
        rw [hq] at hz
        obtain ⟨g2, he, hg2, hrow⟩ := hz
        subst he
        have HG2 := Lib.hid (And.intro (Nat.le_trans HN1.out.size hg2) hrow)
        have HQ := Lib.hid hq
        clear hq hn5 HN1 hg2 hrow
        go_wp2_with fail
        go_ret2
        rw [HZN.out, HLZ.out, HQ.out]
        exact ⟨⟨g2, rfl, HG2.out.1, HG2.out.2⟩, HN5.out⟩
/-- What Reset makes of the cells. -/
def cutC (i j : Nat) (v : Int) (L : List Int) : List Int := st L (9 * i + j) (mn (gt L (9 * i + j)) v)
theorem cutC_length (i j : Nat) (v : Int) (L : List Int) : (cutC i j v L).length = L.length := st_length _ _ _
def resetW (n x : Nat) (m : Int) (L : List Int) : List Int := cutC 0 x (-2 * m + 1) (cutC x 0 (2 * m + 1) (lp (forgetC x) (n + 1) L))
set_option maxRecDepth 100000 in
set_option maxHeartbeats 2000000 in
theorem reset_any (b : Nat) (z : Zn) (x : Nat) (m : Int) (w : World) (h : ZoneAt w b z) (he : emptyB z.Z = false) (hx : 1 ≤ x) (hx2 : x ≤ z.n) (hm : 0 ≤ m) (hm2 : m ≤ 9) :
    Calls Try.prog 52 #[.pointer (some ⟨b, 0, none⟩), .int .i64 x, .int .i64 m] w fun e w' => ZRet w z.n (ofZ z.n (cellsOf ⟨z.n, resetW z.n x m (openW z)⟩)) e w' ∧ New w w' := by
  have hdim := h.dim
  have ST := Lib.hid (set_ok b z x m (by omega) (by omega) hm (by omega) w h)
  have OP := Lib.hid (fun W (hW : New w W) => wopen_any b z W (h.new hW))
  have EM := Lib.hid (fun W (hW : New w W) => empty_any b z W (h.new hW))
  rw [he] at EM
  have HL0 := Lib.hid (openW_length z)
  have hx9 : x < 9 := by omega
  have k1 : IntKind.i64.wrap (2 * m) = 2 * m := by rw [IntKind.wrap_i64]; omega
  have k2 : IntKind.i64.wrap (2 * m + 1) = 2 * m + 1 := by rw [IntKind.wrap_i64]; omega
  have k3 : IntKind.i32.wrap (2 * m + 1) = 2 * m + 1 := by rw [IntKind.wrap_i32]; omega
  have k4 : IntKind.i64.wrap (-2 * m) = -2 * m := by rw [IntKind.wrap_i64]; omega
  have k5 : IntKind.i64.wrap (-2 * m + 1) = -2 * m + 1 := by rw [IntKind.wrap_i64]; omega
  have k6 : IntKind.i32.wrap (-2 * m + 1) = -2 * m + 1 := by rw [IntKind.wrap_i32]; omega
  clear h he hx hx2
  go_enter Try.func52, Try.ntmps52
  go_wp2_with fail
  refine ST.out.mono ?_
  rintro e w1 ⟨rfl, hn1⟩
  have HN1 := Lib.hid hn1
  clear hn1 ST
  go_wp2_with fail
  refine (OP.out w1 HN1.out).mono ?_
  rintro e w2 ⟨g, rfl, hg, hr, hn2⟩
  have HR := Lib.hid hr
  have HN := Lib.hid (HN1.out.trans hn2)
  have HG := Lib.hid (Nat.le_trans HN1.out.size hg)
  clear hr hn2 hg OP HN1
  go_wp2_with fail
  refine (EM.out w2 HN.out).mono ?_
  rintro e w3 ⟨rfl, rfl⟩
  clear EM
  generalize hLz : openW z = L0 at *
  have HLZ := Lib.hid hLz
  clear hLz
  generalize hzn : z.n = n at *
  have HZN := Lib.hid hzn
  clear hzn
  go_wp2_with fail
  refine (forget_any g n L0 x w2 HL0.out hdim hx9 HR.out).mono ?_
  rintro e w3 ⟨rfl, hr3, ha3⟩
  have HR3 := Lib.hid hr3
  have HN3 := Lib.hid (HN.out.at_ ha3 HG.out)
  have HL3 := Lib.hid (show (lp (forgetC x) (n + 1) L0).length = 81 by rw [lp_length _ (fun i L => forgetC_length x i L), HL0.out])
  clear hr3 ha3 HN HR
  generalize hL3 : lp (forgetC x) (n + 1) L0 = L3 at *
  have HE3 := Lib.hid hL3
  clear hL3
  go_wp2_with fail
  have L4 := less_bound g n L3 x 0 (2 * m + 1) w3 HL3.out hx9 (by omega) HR3.out
  refine L4.mono ?_
  rintro e w4 ⟨rfl, hr4, ha4⟩
  have HR4 : Hid (Row w4 g 183 (zoneRow n (cutC x 0 (2 * m + 1) L3))) := Lib.hid hr4
  have HN4 := Lib.hid (HN3.out.at_ ha4 HG.out)
  clear hr4 ha4 HN3 HR3 L4
  go_wp2_with fail
  have L5 := less_bound g n (cutC x 0 (2 * m + 1) L3) 0 x (-2 * m + 1) w4 (by rw [cutC_length, HL3.out]) (by omega) hx9 HR4.out
  refine L5.mono ?_
  rintro e w5 ⟨rfl, hr5, ha5⟩
  have HR5 : Hid (Row w5 g 183 (zoneRow n (cutC 0 x (-2 * m + 1) (cutC x 0 (2 * m + 1) L3)))) := Lib.hid hr5
  have HN5 := Lib.hid (HN4.out.at_ ha5 HG.out)
  clear hr5 ha5 HN4 HR4 L5
  have SH := Lib.hid (shut_any g n _ w5 HR5.out (by rw [cutC_length, cutC_length, HL3.out]) hdim)
  have HW := Lib.hid (show resetW n x m L0 = cutC 0 x (-2 * m + 1) (cutC x 0 (2 * m + 1) L3) by unfold resetW; rw [HE3.out])
  go_wp2_with fail
  refine SH.out.mono ?_
  rintro e w6 ⟨hz, hn6⟩
  have HN6 := Lib.hid (HN5.out.trans hn6)
  clear SH
  cases hq : ofZ n (cellsOf ⟨n, cutC 0 x (-2 * m + 1) (cutC x 0 (2 * m + 1) L3)⟩) with
  | err c =>
    rw [hq] at hz
    simp only [ZRet] at hz
    subst hz
    have HQ := Lib.hid hq
    clear hq hn6
    go_wp2_with fail
    go_ret2
    rw [HZN.out, HLZ.out, HW.out, HQ.out]
    exact ⟨rfl, HN6.out⟩
  | ok Z =>
    rw [hq] at hz
    obtain ⟨g2, he, hg2, hrow⟩ := hz
    subst he
    have HG2 := Lib.hid (And.intro (Nat.le_trans HN5.out.size hg2) hrow)
    have HQ := Lib.hid hq
    clear hq hn6 hg2 hrow
    go_wp2_with fail
    go_ret2
    rw [HZN.out, HLZ.out, HW.out, HQ.out]
    exact ⟨⟨g2, rfl, HG2.out.1, HG2.out.2⟩, HN6.out⟩
end Go.Proofs.Ytapfihlgemejiaa
