/- gnomonref03.Infs, Limits; gnomonref25.Back. -/
import Derived.Test.YtapfihlgemejiaaQ8
namespace Go.Proofs.Ytapfihlgemejiaa
open Go.RowKit
def infsL (n : Nat) : List Int := List.replicate ((n + 1) * (n + 1)) INF
def leastC (n : Nat) (x : Lim) (c : List Int) : List Int := if x.b < gt c (x.i.toNat * (n + 1) + x.j.toNat) then st c (x.i.toNat * (n + 1) + x.j.toNat) x.b else c
/-- The least bounds, dense. -/
def leastTo (n : Nat) (l : List Lim) (t : Nat) : List Int := lp (fun t c => leastC n (l.getD t ⟨0, 0, 0⟩) c) t (infsL n)
theorem leastC_length (n : Nat) (x : Lim) (c : List Int) : (leastC n x c).length = c.length := by unfold leastC; split <;> simp [st_length]
theorem infsL_length (n : Nat) : (infsL n).length = (n + 1) * (n + 1) := by simp [infsL]
theorem leastTo_length (n : Nat) (l : List Lim) (t : Nat) : (leastTo n l t).length = (n + 1) * (n + 1) := by
  unfold leastTo
  rw [lp_length _ (fun t c => leastC_length n _ c), infsL_length]
theorem gt_replicate (m : Nat) (v : Int) {t : Nat} (h : t < m) : gt (List.replicate m v) t = v := by
  unfold gt
  rw [List.getD_eq_getElem?_getD, List.getElem?_replicate, if_pos h]; rfl
theorem mn_lowW (p q : Nat) {b c : Int} (hb : rightB b = true) (hi : b ≠ INF) : mn (lowW p q (wideV c)) b = lowW p q (wideV (if b < c then b else c)) := by
  unfold rightB at hb
  simp only [decide_eq_true_eq] at hb
  have hb := hb.resolve_left hi
  unfold mn lowW wideV
  by_cases hD : p = q ∨ p = 0 <;> by_cases hcI : c = INF <;> by_cases hlt : b < c <;> simp only [hD, hcI, hlt, true_and, false_and, if_true, if_false]
  all_goals (try unfold INF at *); (try unfold NONE at *); repeat (first | omega | split)
/-- The bounds laid over the open cells, one by one: what the dense ones come to. -/
theorem limL_least {n : Nat} (hn : n ≤ 8) (l : List Lim) (h : ∀ t, t < l.length → limOk n (l.getD t ⟨0, 0, 0⟩) = true) : ∀ m, m ≤ l.length → ∃ L,
    lpO (fun t L => if limOk n (l.getD t ⟨0, 0, 0⟩) then some (keepL L (l.getD t ⟨0, 0, 0⟩).i.toNat (l.getD t ⟨0, 0, 0⟩).j.toNat (l.getD t ⟨0, 0, 0⟩).b) else none) m (openL n) = some L ∧ L.length = 81 ∧
      (∀ x ∈ leastTo n l m, rightB x = true) ∧ ∀ p q, p ≤ 8 → q ≤ 8 → gt L (9 * p + q) = if p ≤ n ∧ q ≤ n then lowW p q (wideV (gt (leastTo n l m) (p * (n + 1) + q))) else 0
  | 0, _ => by
    refine ⟨_, rfl, openL_length n, fun x hx => ?_, fun p q hp hq => ?_⟩
    · have hx : x ∈ List.replicate ((n + 1) * (n + 1)) INF := hx
      rw [(List.mem_replicate.1 hx).2]; decide
    · rw [open_form n hn p q (by omega)]
      by_cases hin : p ≤ n ∧ q ≤ n
      · rw [if_pos hin, if_pos hin]
        show _ = lowW p q (wideV (gt (List.replicate ((n + 1) * (n + 1)) INF) (p * (n + 1) + q)))
        rw [gt_replicate _ _ (at_lt hin.1 hin.2), low_inf]
      · rw [if_neg hin, if_neg hin]
  | m + 1, hm => by
    obtain ⟨L, h1, h2, h3, h4⟩ := limL_least hn l h m (by omega)
    have hok := h m (by omega)
    have hcl := leastTo_length n l m
    have hst : leastTo n l (m + 1) = leastC n (l.getD m ⟨0, 0, 0⟩) (leastTo n l m) := rfl
    refine ⟨keepL L (l.getD m ⟨0, 0, 0⟩).i.toNat (l.getD m ⟨0, 0, 0⟩).j.toNat (l.getD m ⟨0, 0, 0⟩).b, by rw [lpO_succ, h1]; show (if limOk n (l.getD m ⟨0, 0, 0⟩) = true then _ else _) = _; rw [if_pos hok], by rw [keepL_length]; exact h2, ?_, ?_⟩
    all_goals rw [hst]; unfold leastC; clear hst h1; generalize l.getD m ⟨0, 0, 0⟩ = x at *; generalize leastTo n l m = C at *
    all_goals
      unfold limOk at hok
      simp only [Bool.and_eq_true, decide_eq_true_eq] at hok
      obtain ⟨⟨k1, k2, k3, k4⟩, hR⟩ := hok
      have hi : x.i.toNat ≤ n := by omega
      have hj : x.j.toNat ≤ n := by omega
      generalize x.i.toNat = i at *
      generalize x.j.toNat = j at *
    · intro y hy
      split at hy
      · unfold st at hy
        rcases List.mem_or_eq_of_mem_set hy with h5 | h5
        · exact h3 y h5
        · rw [h5]; exact hR
      · exact h3 y hy
    · intro p q hp hq
      rw [keepL_cell h2 (by omega) (by omega) _ hq, h4 p q hp hq]
      by_cases hin : p ≤ n ∧ q ≤ n
      · rw [if_pos hin]
        have hlt : p * (n + 1) + q < C.length := by rw [hcl]; exact at_lt hin.1 hin.2
        have hcr := h3 _ (gt_mem hlt)
        by_cases hpq : p = i ∧ q = j
        · obtain ⟨rfl, rfl⟩ := hpq
          by_cases hI : x.b = INF
          · have hno : ¬ x.b < gt C (p * (n + 1) + q) := by have := (right_lt hcr).2; omega
            rw [if_neg (by rintro ⟨_, _, h⟩; exact h hI), if_pos hin]
            rw [if_neg hno]
          · rw [if_pos ⟨rfl, rfl, hI⟩, if_pos hin, mn_lowW p q hR hI]
            congr 2
            by_cases hb : x.b < gt C (p * (n + 1) + q)
            · rw [if_pos hb, if_pos hb, gt_st _ _ _ _ hlt, if_pos rfl]
            · rw [if_neg hb, if_neg hb]
        · have hne : p * (n + 1) + q ≠ i * (n + 1) + j := fun e => hpq (at_inj hin.2 hj e)
          rw [if_neg (by rintro ⟨h5, h6, _⟩; exact hpq ⟨h5, h6⟩), if_pos hin]
          congr 2
          split
          · rw [gt_st _ _ _ _ (by rw [hcl]; exact at_lt hi hj), if_neg hne]
          · rfl
      · rw [if_neg hin, if_neg hin, if_neg (by rintro ⟨rfl, rfl, _⟩; exact hin ⟨hi, hj⟩)]
theorem limZ_least {n : Nat} (hn : n ≤ 8) (l : List Lim) (h : ∀ t, t < l.length → limOk n (l.getD t ⟨0, 0, 0⟩) = true) : limZ n l = ofZ n (leastTo n l l.length) := by
  obtain ⟨L, h1, h2, h3, h4⟩ := limL_least hn l h l.length (Nat.le_refl _)
  have hcl := leastTo_length n l l.length
  have hf : fewB (n : Int) = true := by unfold fewB; exact decide_eq_true (by omega)
  have hL : lowL n (spread n ((leastTo n l l.length).map wideV)) = L := by
    have hsl := spread_length n ((leastTo n l l.length).map wideV)
    refine gt_ext (by unfold lowL; rw [lpLow_length]; exact hsl) h2 (fun p q hp hq => ?_)
    rw [h4 p q hp hq]
    by_cases hin : p ≤ n ∧ q ≤ n
    · rw [if_pos hin, lowL_cell hn hsl hin.1 hin.2, spread_gt hn hin.1 hin.2]
      congr 1
      have hlt : p * (n + 1) + q < (leastTo n l l.length).length := by rw [hcl]; exact at_lt hin.1 hin.2
      unfold gt
      rw [List.getD_eq_getElem?_getD, List.getD_eq_getElem?_getD, List.getElem?_map, List.getElem?_eq_getElem hlt]
      rfl
    · rw [if_neg hin, lowL_out hn hsl (spread_out hp hq hin)]
  rw [ofZ_some hf (by rw [hcl]; push_cast; rfl) (ofL_low hn hcl h3), hL]
  unfold limZ limL
  rw [if_neg (by rw [hf]; decide), Int.toNat_natCast, h1]
theorem limZ_bad {n : Nat} (hn : n ≤ 8) (l : List Lim) {t : Nat} (ht : t < l.length) (h : limOk n (l.getD t ⟨0, 0, 0⟩) = false) : limZ n l = .err 7 := by
  have hf : fewB (n : Int) = true := by unfold fewB; exact decide_eq_true (by omega)
  unfold limZ
  rw [if_neg (by rw [hf]; decide)]
  have e : limL n l = none := by
    unfold limL
    rw [Int.toNat_natCast]
    refine lpO_none _ (t + 1) _ _ ?_ (by omega)
    rw [lpO_succ]
    cases lpO (fun t L => if limOk n (l.getD t ⟨0, 0, 0⟩) then some (keepL L (l.getD t ⟨0, 0, 0⟩).i.toNat (l.getD t ⟨0, 0, 0⟩).j.toNat (l.getD t ⟨0, 0, 0⟩).b) else none) t (openL n) with
    | none => rfl
    | some L => show (if limOk n (l.getD t ⟨0, 0, 0⟩) = true then _ else _) = _; rw [h]; rfl
  rw [e]
set_option maxRecDepth 100000 in
set_option maxHeartbeats 4000000 in
theorem rinfs_any (n : Nat) (w : World) (hn : n ≤ 8) : Calls Try.prog 183 #[.int .i64 n] w fun e w' => ∃ v, e = .returned v ∧ w'.ownsRow w.heap.size 76 1 v ((n + 1) * (n + 1)) (ints32 (infsL n)) ∧ New w w' := by
  obtain ⟨i0, hi0, hz0, hz1, hz2⟩ := info_parts infoOf76
  obtain ⟨m, hm⟩ : ∃ m, (n + 1) * (n + 1) = m := ⟨_, rfl⟩
  have hsq : m ≤ 81 := by
    have h1 : (n + 1) * (n + 1) ≤ 9 * 9 := Nat.mul_le_mul (by omega) (by omega)
    omega
  have hmi : ((n : Int) + 1) * ((n : Int) + 1) = (m : Int) := by rw [← hm]; push_cast; rfl
  have w1 : IntKind.i64.wrap ((n : Int) + 1) = (n : Int) + 1 := by rw [IntKind.wrap_i64]; omega
  have w2 : IntKind.i64.wrap (((n : Int) + 1) * ((n : Int) + 1)) = (m : Int) := by rw [hmi, IntKind.wrap_i64]; omega
  unfold infsL
  rw [hm]
  clear hm hmi
  go_enter Try.func183, Try.ntmps183
  go_wp2_with fail
  go_loopw [3, 4] (fun v ci wr => ∃ t : Nat, t ≤ m ∧ ci = .int .i64 t ∧ Hid (wr.ownsRow w.heap.size 76 1 v t (ints32 (List.replicate t INF))) ∧ Hid (New w wr))
    (fun _ ci _ => m - (intOf ci).toNat)
  case atStart => exact ⟨0, Nat.zero_le _, by go_num, World.ownsRow_nil _ _ _ _, New.refl w⟩
  case round =>
    obtain ⟨t, ht, rfl, HO, HN⟩ := hrel
    by_cases htl : t < m
    · have htz : (t : Int) < m := by omega
      have hN2 := (New.refl wr).alloc (.cells #[.int .i32 2147483647] 76)
      have HOWN := Lib.hid (own_new HO.out hN2)
      have HEL := Lib.hid (elems_new wr 76 (.int .i32 2147483647))
      have HSZ := Lib.hid (Nat.le_trans HN.out.size hN2.size)
      have HN2 := Lib.hid hN2
      clear hN2
      go_wp2_with (at_builtin; (refine wpList_append_elems rfl _ _ 40 rfl w.heap.size 76 i0 (.int .i32 0) 1 4 Try.underlying40 hi0 hz0 hz1 hz2 rfl (by decide) _ t _ (by rfl) HOWN.out _ _ 1 1 _ (by rfl) HEL.out rfl ?c1 ?c2 ?c3 HSZ.out ?_))
      case c1 => first | rfl | (intro y hy; simp at hy; subst hy; rfl)
      case c2 => unfold maxLen; omega
      case c3 => omega
      intro v' w' ho' hg' hb'
      have hF := Fr.of_grown (S := fun k => Value.ownBlock _ = some k) hg' (fun k hk _ => hk)
      have hN3 : New w w' := Fr.then (HN.out.trans HN2.out) hF (fun _ _ e => e) (fun k hk e => by
        have h1 := (own_row HOWN.out e).1
        omega)
      have HO' := Lib.hid ho'
      clear ho' hg' hb' hF
      go_wp2_with fail
      refine ⟨⟨t + 1, by omega, by go_num, ?_, hN3⟩, by simp [intOf] <;> omega⟩
      show World.ownsRow _ _ _ _ _ _ _
      have h1 := HO'.out
      unfold ints32 at h1 ⊢
      rw [List.replicate_succ', List.map_append]
      exact h1
    · have htz : ¬ (t : Int) < m := by omega
      have hte : t = m := by omega
      have h1 := HO.out
      rw [hte] at h1
      have HO2 := Lib.hid h1
      clear h1 hte
      go_wp2_with fail
      go_ret
      exact ⟨_, rfl, HO2.out, HN.out⟩
set_option maxRecDepth 100000 in
set_option maxHeartbeats 8000000 in
theorem rlimits_any (n : Int) (A : Option Addr) (c : Nat) (l : List Lim) (w : World) (hA : Elems w w.heap.size A (limRow l)) (hr : ∀ x ∈ l, -2147483648 ≤ x.b ∧ x.b ≤ 2147483647) (hlen : l.length ≤ 140737488355328) :
    Calls Try.prog 156 #[.int .i64 n, .slice A l.length c] w fun e w' => RRet w n.toNat (limZ n l) e w' ∧ New w w' := by
  by_cases hf : 0 ≤ n ∧ n ≤ 8
  · obtain ⟨k, rfl⟩ := Int.eq_ofNat_of_zero_le hf.1
    have hk : k ≤ 8 := by omega
    have hk0 : (0 : Int) ≤ (k : Int) := by omega
    have hk8 : (k : Int) ≤ 8 := by omega
    obtain ⟨q, hq⟩ : ∃ q, (k + 1) * (k + 1) = q := ⟨_, rfl⟩
    have hq81 : q ≤ 81 := by
      have h1 : (k + 1) * (k + 1) ≤ 9 * 9 := Nat.mul_le_mul (by omega) (by omega)
      omega
    have hq0 : 0 < q := by rw [← hq]; exact Nat.mul_pos (Nat.succ_pos k) (Nat.succ_pos k)
    have IN := rinfs_any k w hk
    rw [hq] at IN
    have HIN := Lib.hid IN
    have HQ := Lib.hid hq
    obtain ⟨m, hm⟩ : ∃ m, l.length = m := ⟨_, rfl⟩
    rw [hm] at hlen ⊢
    have HM := Lib.hid hm
    have HA := Lib.hid hA
    have HR := Lib.hid hr
    clear IN hq hm hA hr hf
    go_enter Try.func156, Try.ntmps156
    go_wp2_with fail
    refine HIN.out.mono ?_
    rintro e w1 ⟨v1, rfl, ho1, hn1⟩
    obtain ⟨A1, c1, hv1⟩ := own_form ho1
    subst hv1
    obtain ⟨g, hg, hgb, hgl, _⟩ := own_cell ho1 (by rw [ints32_length, infsL_length, HQ.out]; exact hq0)
    subst hg
    have HO1 := Lib.hid ho1
    have HN1 := Lib.hid hn1
    have HGB := Lib.hid hgb
    clear ho1 hn1 HIN hgb hgl
    go_wp2_with fail
    go_loopw [7] (fun ci wr => ∃ t : Nat, t ≤ m ∧ ci = .int .i64 t ∧ Hid (∀ s, s < t → limOk k (l.getD s ⟨0, 0, 0⟩) = true) ∧ Hid (wr.ownsRow w.heap.size 76 1 (.slice (some ⟨g, 0, none⟩) q c1) q (ints32 (leastTo k l t))) ∧ Hid (New w wr))
      (fun ci _ => m - (intOf ci).toNat)
    case atStart => exact ⟨0, Nat.zero_le _, by go_num, (fun s hs => absurd hs (Nat.not_lt_zero _)), HO1, HN1⟩
    case round =>
      obtain ⟨t, ht, rfl, HOK, HO, HN⟩ := hrel
      by_cases htl : t < m
      · have htz : (t : Int) < m := by omega
        have htl' : t < l.length := by rw [HM.out]; exact htl
        obtain ⟨bA, oA, hAe, _, hc0, hc1, hc2⟩ := (HA.out.new HN.out (Nat.le_refl _)).lims t htl'
        subst hAe
        have hst : leastTo k l (t + 1) = leastC k (l.getD t ⟨0, 0, 0⟩) (leastTo k l t) := rfl
        have hcl := leastTo_length k l t
        have hmem : l.getD t ⟨0, 0, 0⟩ ∈ l := by rw [List.getD_eq_getElem?_getD, List.getElem?_eq_getElem htl']; exact List.getElem_mem _
        have hxr := HR.out _ hmem
        have hbad : limOk k (l.getD t ⟨0, 0, 0⟩) = false → limZ k l = .err 7 := limZ_bad hk l htl'
        have hnext : limOk k (l.getD t ⟨0, 0, 0⟩) = true → ∀ s, s < t + 1 → limOk k (l.getD s ⟨0, 0, 0⟩) = true := fun h s hs => by
          by_cases e : s = t
          · subst e; exact h
          · exact HOK.out s (by omega)
        generalize l.getD t ⟨0, 0, 0⟩ = x at *
        obtain ⟨xi, xj, xb⟩ := x
        simp only at hc0 hc1 hc2 hxr
        obtain ⟨C, hC⟩ : ∃ C, leastTo k l t = C := ⟨_, rfl⟩
        rw [hC] at HO hst hcl
        have RI := Lib.hid (fun W => rright_any xb W hxr)
        have HNEXT := Lib.hid hnext
        have HBAD := Lib.hid hbad
        have HST := Lib.hid hst
        have HN2 := Lib.hid (HN.out.alloc (.cells #[.int .i64 xi, .int .i64 xj, .int .i32 xb] 100))
        have HO2 := Lib.hid (own_new HO.out ((New.refl wr).alloc (.cells #[.int .i64 xi, .int .i64 xj, .int .i32 xb] 100)))
        have r0 := Row.new wr 100 [.int .i64 xi, .int .i64 xj, .int .i32 xb]
        have s0 : (wr.alloc (.cells #[.int .i64 xi, .int .i64 xj, .int .i32 xb] 100)).cell? ⟨wr.heap.size, 0, none⟩ = some (.int .i64 xi) := r0.cell 0
        have s1 : (wr.alloc (.cells #[.int .i64 xi, .int .i64 xj, .int .i32 xb] 100)).cell? ⟨wr.heap.size, 1, none⟩ = some (.int .i64 xj) := r0.cell 1
        have s2 : (wr.alloc (.cells #[.int .i64 xi, .int .i64 xj, .int .i32 xb] 100)).cell? ⟨wr.heap.size, 2, none⟩ = some (.int .i32 xb) := r0.cell 2
        have hlok : limOk k ⟨xi, xj, xb⟩ = (decide (0 ≤ xi ∧ xi ≤ k ∧ 0 ≤ xj ∧ xj ≤ k) && rightB xb) := rfl
        have HLOK := Lib.hid hlok
        clear hnext hbad hst hmem hC r0 hlok
        by_cases k1 : xi < 0
        · have HB := Lib.hid (HBAD.out (by rw [HLOK.out, decide_eq_false (by omega)]; rfl))
          go_wp2_with fail
          go_ret2
          exact ⟨by rw [HB.out]; rfl, HN2.out⟩
        · by_cases k2 : (k : Int) < xi
          · have HB := Lib.hid (HBAD.out (by rw [HLOK.out, decide_eq_false (by omega)]; rfl))
            go_wp2_with fail
            go_ret2
            exact ⟨by rw [HB.out]; rfl, HN2.out⟩
          · by_cases k3 : xj < 0
            · have HB := Lib.hid (HBAD.out (by rw [HLOK.out, decide_eq_false (by omega)]; rfl))
              go_wp2_with fail
              go_ret2
              exact ⟨by rw [HB.out]; rfl, HN2.out⟩
            · by_cases k4 : (k : Int) < xj
              · have HB := Lib.hid (HBAD.out (by rw [HLOK.out, decide_eq_false (by omega)]; rfl))
                go_wp2_with fail
                go_ret2
                exact ⟨by rw [HB.out]; rfl, HN2.out⟩
              · cases hrb : rightB xb with
                | false =>
                  rw [hrb] at RI
                  have HB := Lib.hid (HBAD.out (by rw [HLOK.out, hrb, Bool.and_false]))
                  clear hrb
                  go_wp2_with fail
                  refine (RI.out _).mono ?_
                  rintro e w' ⟨rfl, rfl⟩
                  go_wp2_with fail
                  go_ret2
                  exact ⟨by rw [HB.out]; rfl, HN2.out⟩
                | true =>
                  rw [hrb] at RI
                  have HB := Lib.hid (HNEXT.out (by rw [HLOK.out, hrb, decide_eq_true (by omega)]; rfl))
                  obtain ⟨i, rfl⟩ := Int.eq_ofNat_of_zero_le (show 0 ≤ xi by omega)
                  obtain ⟨j, rfl⟩ := Int.eq_ofNat_of_zero_le (show 0 ≤ xj by omega)
                  have hi : i ≤ k := by omega
                  have hj : j ≤ k := by omega
                  have si := sq_le (a := i) (n := k) (by omega) hk
                  have l1 := at_lt hi hj
                  have hst2 : leastTo k l (t + 1) = if xb < gt C (i * (k + 1) + j) then st C (i * (k + 1) + j) xb else C := by rw [HST.out]; rfl
                  obtain ⟨r, hre⟩ : ∃ r, i * (k + 1) = r := ⟨_, rfl⟩
                  have ei : (i : Int) * ((k : Int) + 1) = (r : Int) := by rw [← hre]; push_cast; rfl
                  rw [hre] at si l1 hst2
                  rw [HQ.out] at l1 hcl
                  have v1 : IntKind.i64.wrap ((k : Int) + 1) = (k : Int) + 1 := by rw [IntKind.wrap_i64]; omega
                  have v2 : IntKind.i64.wrap ((i : Int) * ((k : Int) + 1)) = (r : Int) := by rw [ei, IntKind.wrap_i64]; omega
                  have v3 : IntKind.i64.wrap ((r : Int) + (j : Int)) = (r : Int) + (j : Int) := by rw [IntKind.wrap_i64]; omega
                  have d1 : (r : Int) + (j : Int) < (q : Int) := by omega
                  have d2 : (0 : Int) ≤ (r : Int) + (j : Int) := by omega
                  have t1 : ((r : Int) + (j : Int)).toNat = r + j := by omega
                  obtain ⟨g', hg', _, _, hcell, hfrz⟩ := own_cell HO2.out (by rw [ints32_length, hcl]; exact hq0)
                  cases hg'
                  have c5 := hcell (r + j) (.int .i32 (gt C (r + j))) (by
                    unfold ints32 gt
                    rw [List.getElem?_map, List.getD_eq_getElem?_getD, List.getElem?_eq_getElem (by omega)]; rfl)
                  have f5 := hfrz (r + j)
                  have hset := own_set HO2.out (r + j) (.int .i32 xb)
                  have hls : (ints32 C).set (r + j) (.int .i32 xb) = ints32 (st C (r + j) xb) := by unfold ints32 st; rw [List.map_set]
                  rw [hls] at hset
                  have HSET := Lib.hid hset
                  obtain ⟨y, hy⟩ : ∃ y, gt C (r + j) = y := ⟨_, rfl⟩
                  rw [hy] at c5 hst2
                  have HST2 := Lib.hid hst2
                  have HF := Lib.hid f5
                  clear hst2 hset hls hcell hfrz hy hre ei hcl hrb k1 k2 k3 k4
                  go_wp2_with fail
                  refine (RI.out _).mono ?_
                  rintro e w' ⟨rfl, rfl⟩
                  by_cases hlt : xb < y
                  · have hdl : decide (xb < y) = true := decide_eq_true hlt
                    go_wp2_with fail
                    go_quiet (fail)
                    go_wp2_with fail
                    refine ⟨⟨t + 1, by omega, by go_num, HB, ?_, ?_⟩, by simp [intOf] <;> omega⟩
                    · show World.ownsRow _ _ _ _ _ _ _
                      rw [HST2.out, if_pos hlt]
                      exact HSET.out
                    · exact Fr.set (p := ⟨g, r + j, none⟩) (HN2.out.drewN _) (.inr HGB.out) _
                  · have hdl : decide (xb < y) = false := decide_eq_false hlt
                    have HLT := Lib.hid hlt
                    go_wp2_with fail
                    go_quiet (fail)
                    go_wp2_with fail
                    refine ⟨⟨t + 1, by omega, by go_num, HB, ?_, ?_⟩, by simp [intOf] <;> omega⟩
                    · show World.ownsRow _ _ _ _ _ _ _
                      rw [HST2.out, if_neg (Int.not_lt.2 HLT.out)]
                      exact own_new HO2.out ((New.refl _).drewN _)
                    · exact HN2.out.drewN _
      · have htz : ¬ (t : Int) < m := by omega
        have hte : t = m := by omega
        have h1 := HO.out
        rw [hte, ← HM.out] at h1
        have hz := limZ_least hk l (fun s hs => HOK.out s (by have := HM.out; omega))
        have hcl := leastTo_length k l l.length
        rw [HQ.out] at hcl
        have hrr : ∀ x ∈ leastTo k l l.length, -2147483648 ≤ x ∧ x ≤ 2147483647 := fun x hx => by
          obtain ⟨L, _, _, h3, _⟩ := limL_least hk l (fun s hs => HOK.out s (by have := HM.out; omega)) l.length (Nat.le_refl _)
          have h4 := h3 x hx
          unfold rightB INF at h4
          simp only [decide_eq_true_eq] at h4
          omega
        have OF := rof_any k (some ⟨g, 0, none⟩) c1 (leastTo k l l.length) wr (elems_of_own h1) hrr (by rw [hcl]; omega)
        rw [← hz, hcl] at OF
        have HOF := Lib.hid OF
        clear h1 hte hz hcl hrr OF
        go_wp2_with fail
        refine HOF.out.mono ?_
        rintro e w2 ⟨hz2, hn2⟩
        have HN2 := Lib.hid (HN.out.trans hn2)
        have HSZ := Lib.hid HN.out.size
        cases hzq : limZ k l with
        | err cc =>
          rw [hzq] at hz2
          have hz2 : e = .returned (.tuple #[.pointer none, .int .i64 cc]) := hz2
          subst hz2
          have HZQ := Lib.hid hzq
          clear hn2 hzq
          go_wp2_with fail
          go_ret2
          exact ⟨by rw [HZQ.out]; rfl, HN2.out⟩
        | ok Z =>
          rw [hzq] at hz2
          obtain ⟨b, rfl, hb, hrf⟩ := hz2
          have HB2 := Lib.hid (Nat.le_trans HSZ.out hb)
          have HRF := Lib.hid hrf
          have HZQ := Lib.hid hzq
          clear hn2 hb hrf hzq
          go_wp2_with fail
          go_ret2
          exact ⟨by rw [HZQ.out]; exact ⟨b, rfl, HB2.out, HRF.out⟩, HN2.out⟩
  · have hof : limZ n l = .err 12 := by
      unfold limZ fewB
      rw [if_pos (decide_eq_false hf)]
    have HOF := Lib.hid hof
    clear hof
    by_cases h0 : n < 0
    · clear hf hA hr
      go_enter Try.func156, Try.ntmps156
      go_wp2_with fail
      go_ret2
      exact ⟨by rw [HOF.out]; rfl, New.refl _⟩
    · have h8 : 8 < n := by omega
      clear hf hA hr
      go_enter Try.func156, Try.ntmps156
      go_wp2_with fail
      go_ret2
      exact ⟨by rw [HOF.out]; rfl, New.refl _⟩
theorem rback_any (n : Int) (A : Option Addr) (c : Nat) (l : List Lim) (w : World) (hA : Elems w w.heap.size A (limRow l)) (hr : ∀ x ∈ l, -2147483648 ≤ x.b ∧ x.b ≤ 2147483647) (hlen : l.length ≤ 140737488355328) :
    Calls Try.prog 77 #[.int .i64 n, .slice A l.length c] w fun e w' => RRet w n.toNat (limZ n l) e w' ∧ New w w' := by
  have H := Lib.hid (rlimits_any n A c l w hA hr hlen)
  clear hA hr
  go_enter Try.func77, Try.ntmps77
  go_wp2_with fail
  refine H.out.mono ?_
  rintro e w2 ⟨hz2, hn2⟩
  have HN2 := Lib.hid hn2
  cases hzq : limZ n l with
  | err cc =>
    rw [hzq] at hz2
    have hz2 : e = .returned (.tuple #[.pointer none, .int .i64 cc]) := hz2
    subst hz2
    have HZQ := Lib.hid hzq
    clear hn2 hzq
    go_wp2_with fail
    go_ret2
    exact ⟨by rw [HZQ.out]; rfl, HN2.out⟩
  | ok Z =>
    rw [hzq] at hz2
    obtain ⟨b, rfl, hb, hrf⟩ := hz2
    have HB2 := Lib.hid hb
    have HRF := Lib.hid hrf
    have HZQ := Lib.hid hzq
    clear hn2 hb hrf hzq
    go_wp2_with fail
    go_ret2
    exact ⟨by rw [HZQ.out]; exact ⟨b, rfl, HB2.out, HRF.out⟩, HN2.out⟩
end Go.Proofs.Ytapfihlgemejiaa
