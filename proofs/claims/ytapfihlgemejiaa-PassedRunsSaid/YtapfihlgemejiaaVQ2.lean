/- Walks over gnomonref03: plus, close. | Walks over gnomonref03: wide, Empty1, made. -/
import Derived.Test.YtapfihlgemejiaaVQ0
import Derived.Test.YtapfihlgemejiaaVM6
namespace Go.Proofs.Ytapfihlgemejiaa
open Go.RowKit
theorem rtmod2 (a : Int) : (a % 2 = 0 ∧ Int.tmod a 2 = 0) ∨ (a % 2 = 1 ∧ (Int.tmod a 2 = 1 ∨ Int.tmod a 2 = -1)) := by
  have h := Int.tmod_eq_emod (a := a) (b := 2)
  split at h
  · omega
  · have : (2 : Int).natAbs = 2 := rfl
    omega
set_option maxRecDepth 100000 in
set_option maxHeartbeats 4000000 in
theorem rplus_any (a b : Int) (w : World) (ha : Lt 2000000000000000000 a) (hb : Lt 2000000000000000000 b) :
    Calls Try.prog 193 #[.int .i64 a, .int .i64 b] w fun e w' => e = .returned (.int .i64 (sumI a b)) ∧ w = w' := by
  by_cases h1 : a = NONE
  · subst h1
    have hq : sumI NONE b = 4611686018427387904 := by unfold sumI; simp [NONE]
    rw [hq]; clear hq hb ha
    unfold NONE
    go_enter Try.func193, Try.ntmps193
    go_wp2
    go_ret
    exact ⟨rfl, rfl⟩
  · by_cases h2 : b = NONE
    · subst h2
      have hq : sumI a NONE = 4611686018427387904 := by unfold sumI; simp [NONE]
      rw [hq]; clear hq hb
      have h3 : (a == 4611686018427387904) = false := by unfold NONE at h1; simpa using h1
      clear h1 ha
      unfold NONE
      go_enter Try.func193, Try.ntmps193
      go_wp2
      go_ret
      exact ⟨rfl, rfl⟩
    · have hA := ha.resolve_left h1
      have hB := hb.resolve_left h2
      have h3 : (a == 4611686018427387904) = false := by unfold NONE at h1; simpa using h1
      have h4 : (b == 4611686018427387904) = false := by unfold NONE at h2; simpa using h2
      have w1 : IntKind.i64.wrap (a + b) = a + b := by rw [IntKind.wrap_i64]; omega
      have w2 : IntKind.i64.wrap (a + b - 1) = a + b - 1 := by rw [IntKind.wrap_i64]; omega
      have hs : sumI a b = if a % 2 = 1 ∨ b % 2 = 1 then a + b - 1 else a + b := by unfold sumI; rw [if_neg (by simp [h1, h2])]
      rw [hs]
      clear h1 h2 ha hb hA hB hs
      rcases rtmod2 a with ⟨p, q⟩ | ⟨p, q | q⟩
      · rcases rtmod2 b with ⟨p', q'⟩ | ⟨p', q' | q'⟩
        · rw [if_neg (by omega)]
          clear p p'
          go_enter Try.func193, Try.ntmps193
          go_wp2
          go_ret
          exact ⟨rfl, rfl⟩
        · rw [if_pos (by omega)]
          clear p p'
          go_enter Try.func193, Try.ntmps193
          go_wp2
          go_ret
          exact ⟨rfl, rfl⟩
        · rw [if_pos (by omega)]
          clear p p'
          go_enter Try.func193, Try.ntmps193
          go_wp2
          go_ret
          exact ⟨rfl, rfl⟩
      · rw [if_pos (by omega)]
        clear p
        go_enter Try.func193, Try.ntmps193
        go_wp2
        go_ret
        exact ⟨rfl, rfl⟩
      · rw [if_pos (by omega)]
        clear p
        go_enter Try.func193, Try.ntmps193
        go_wp2
        go_ret
        exact ⟨rfl, rfl⟩
def ints64 (l : List Int) : List Value := l.map (Value.int .i64)
theorem ints64_length (l : List Int) : (ints64 l).length = l.length := by simp [ints64]
/-- Wide cells of n clocks in a list of their own. -/
def WideAt (w : World) (base g n m c : Nat) (L : List Int) : Prop := (n + 1) * (n + 1) = m ∧ w.ownsRow base 2 1 (.slice (some ⟨g, 0, none⟩) m c) m (ints64 (dense n L))
section
variable {w : World} {base g n m c : Nat} {L : List Int}
theorem WideAt.cell (h : WideAt w base g n m c L) {i j : Nat} (hi : i ≤ n) (hj : j ≤ n) : w.cell? ⟨g, i * (n + 1) + j, none⟩ = some (.int .i64 (gt L (9 * i + j))) ∧ i * (n + 1) + j < m ∧ w.frozen? ⟨g, i * (n + 1) + j, none⟩ = false := by
  have hl := at_lt hi hj
  obtain ⟨g', hA, _, _, hc, hf⟩ := own_cell h.2 (by rw [ints64_length, dense_length]; omega)
  have e : g' = g := by simpa using hA.symm
  subst e
  refine ⟨hc _ _ ?_, by rw [← h.1]; exact hl, hf _⟩
  unfold ints64
  rw [List.getElem?_map, dense_get hi hj]; rfl
theorem WideAt.set (h : WideAt w base g n m c L) (hn : n ≤ 8) (hL : L.length = 81) {i j : Nat} (hi : i ≤ n) (hj : j ≤ n) (v : Int) : WideAt (w.setCell ⟨g, i * (n + 1) + j, none⟩ (.int .i64 v)) base g n m c (st L (9 * i + j) v) := by
  refine ⟨h.1, ?_⟩
  have h1 := own_set h.2 (i * (n + 1) + j) (.int .i64 v)
  rw [← dense_set hn hL hi hj]
  unfold ints64 at h1 ⊢
  rw [List.map_set]
  exact h1
theorem WideAt.sq (h : WideAt w base g n m c L) (hn : n ≤ 8) : m ≤ 81 := by
  have h1 : (n + 1) * (n + 1) ≤ 9 * 9 := Nat.mul_le_mul (by omega) (by omega)
  rw [← h.1]; exact h1
theorem sq_le {a n : Nat} (ha : a ≤ 8) (hn : n ≤ 8) : a * (n + 1) ≤ 72 := by
  have h1 : a * (n + 1) ≤ 8 * 9 := Nat.mul_le_mul ha (by omega)
  exact h1
theorem WideAt.keep {w' : World} (h : WideAt w base g n m c L) (hk : w'.heap[g]? = w.heap[g]?) : WideAt w' base g n m c L := ⟨h.1, own_keep h.2 fun g' hg => by
  have e : g' = g := by simpa [Value.ownBlock] using hg.symm
  subst e; exact hk⟩
end
set_option maxRecDepth 100000 in
set_option maxHeartbeats 4000000 in
theorem rclose_any (base g n m c : Nat) (L : List Int) (w : World) (hn : n ≤ 8) (hB : AllLt n 536870913 L) (hw : WideAt w base g n m c L) :
    Calls Try.prog 180 #[.int .i64 n, .slice (some ⟨g, 0, none⟩) m c] w fun e w' => e = .returned (.bool (closeL n L).isSome) ∧ At g w w' ∧ ∀ L', closeL n L = some L' → WideAt w' base g n m c L' := by
  have hL := hB.1
  have HB := Lib.hid hB
  have hm := hw.sq hn
  clear hB
  have en : IntKind.i64.wrap ((n : Int) + 1) = (n : Int) + 1 := by rw [IntKind.wrap_i64]; omega
  go_enter Try.func180, Try.ntmps180
  go_wp2_with fail
  go_loopw [5] (fun cv wr => ∃ k : Nat, k ≤ n + 1 ∧ cv = .int .i64 k ∧ Hid (∀ k', k' < k → ∀ i, i ≤ n → 1 ≤ gt (lp (roundQ n) (k' + 1) L) (10 * i)) ∧ Hid (WideAt wr base g n m c (lp (roundQ n) k L)) ∧ Hid (At g w wr))
    (fun cv _ => n + 1 - (intOf cv).toNat)
  case atStart => exact ⟨0, by omega, rfl, fun k' hk' => absurd hk' (Nat.not_lt_zero _), hw, At.refl g w⟩
  case round =>
    obtain ⟨k, hk, rfl, HOK, HW, HA⟩ := hrel
    by_cases hlt : k ≤ n
    · have hltz : (k : Int) ≤ (n : Int) := by omega
      go_wp2_with fail
      obtain ⟨wo, rfl⟩ : ∃ wo : World, wo = wr := ⟨_, rfl⟩
      go_loopw [6] (fun cv wr => ∃ i : Nat, i ≤ n + 1 ∧ cv = .int .i64 i ∧ Hid (WideAt wr base g n m c (lp (fun i L => rowL n k i L) i (lp (roundQ n) k L))) ∧ Hid (At g w wr))
        (fun cv _ => n + 1 - (intOf cv).toNat)
      case atStart => exact ⟨0, by omega, rfl, HW, HA⟩
      case round =>
        obtain ⟨i, hi, rfl, HW, HA⟩ := hrel
        by_cases hit : i ≤ n
        · have hitz : (i : Int) ≤ (n : Int) := by omega
          go_wp2_with fail
          obtain ⟨wi, rfl⟩ : ∃ wi : World, wi = wr := ⟨_, rfl⟩
          go_loopw [7] (fun cv wr => ∃ j : Nat, j ≤ n + 1 ∧ cv = .int .i64 j ∧ Hid (WideAt wr base g n m c (lp (fun j L => cellL k i j L) j (lp (fun i L => rowL n k i L) i (lp (roundQ n) k L)))) ∧ Hid (At g w wr))
            (fun cv _ => n + 1 - (intOf cv).toNat)
          case atStart => exact ⟨0, by omega, rfl, HW, HA⟩
          case round =>
            obtain ⟨j, hj, rfl, HW, HA⟩ := hrel
            by_cases hjt : j ≤ n
            · have hjtz : (j : Int) ≤ (n : Int) := by omega
              have hst : lp (fun j L => cellL k i j L) (j + 1) (lp (fun i L => rowL n k i L) i (lp (roundQ n) k L)) = cellL k i j (lp (fun j L => cellL k i j L) j (lp (fun i L => rowL n k i L) i (lp (roundQ n) k L))) := rfl
              have HST := Lib.hid hst
              have hbd := HB.out.at_ hn (k := k) (i := i) (j := j) hlt hit hj
              clear hst
              generalize lp (fun j L => cellL k i j L) j (lp (fun i L => rowL n k i L) i (lp (roundQ n) k L)) = M at *
              have hML := hbd.1
              obtain ⟨x, hx⟩ : ∃ x, gt M (9 * i + k) = x := ⟨_, rfl⟩
              obtain ⟨y, hy⟩ : ∃ y, gt M (9 * k + j) = y := ⟨_, rfl⟩
              obtain ⟨z, hz⟩ : ∃ z, gt M (9 * i + j) = z := ⟨_, rfl⟩
              have HP := Lib.hid (fun w' => rplus_any x y w' (hx ▸ hbd.2 i k hit hlt) (hy ▸ hbd.2 k j hlt hjt))
              obtain ⟨c1, l1, _⟩ := HW.out.cell hit hlt
              obtain ⟨c2, l2, _⟩ := HW.out.cell hlt hjt
              obtain ⟨c3, l3, f3⟩ := HW.out.cell hit hjt
              rw [hx] at c1
              rw [hy] at c2
              rw [hz] at c3
              have hcl : cellL k i j M = st M (9 * i + j) (mn z (sumI x y)) := by unfold cellL; rw [hx, hy, hz]
              have hsame : ¬ sumI x y < z → cellL k i j M = M := fun h => by
                rw [hcl]; unfold mn; rw [if_neg h, ← hz]
                unfold st gt
                rw [List.getD_eq_getElem?_getD, List.getElem?_eq_getElem (by omega)]
                exact List.set_getElem_self _
              have HSAME := Lib.hid hsame
              have HCL := Lib.hid hcl
              clear hbd hx hy hz hsame hcl
              have si := sq_le (a := i) (n := n) (by omega) hn
              have sk := sq_le (a := k) (n := n) (by omega) hn
              obtain ⟨ri, hri⟩ : ∃ r, i * (n + 1) = r := ⟨_, rfl⟩
              obtain ⟨rk, hrk⟩ : ∃ r, k * (n + 1) = r := ⟨_, rfl⟩
              have ei : (i : Int) * ((n : Int) + 1) = (ri : Int) := by rw [← hri]; push_cast; rfl
              have ek : (k : Int) * ((n : Int) + 1) = (rk : Int) := by rw [← hrk]; push_cast; rfl
              rw [hri] at c1 c3 l1 l3 f3 si
              rw [hrk] at c2 l2 sk
              have e1 : IntKind.i64.wrap ((i : Int) * ((n : Int) + 1)) = (ri : Int) := by rw [ei, IntKind.wrap_i64]; omega
              have e2 : IntKind.i64.wrap ((k : Int) * ((n : Int) + 1)) = (rk : Int) := by rw [ek, IntKind.wrap_i64]; omega
              have e3 : IntKind.i64.wrap ((ri : Int) + (k : Int)) = (ri : Int) + (k : Int) := by rw [IntKind.wrap_i64]; omega
              have e4 : IntKind.i64.wrap ((rk : Int) + (j : Int)) = (rk : Int) + (j : Int) := by rw [IntKind.wrap_i64]; omega
              have e5 : IntKind.i64.wrap ((ri : Int) + (j : Int)) = (ri : Int) + (j : Int) := by rw [IntKind.wrap_i64]; omega
              have d1 : (ri : Int) + (k : Int) < (m : Int) := by omega
              have d2 : (rk : Int) + (j : Int) < (m : Int) := by omega
              have d3 : (ri : Int) + (j : Int) < (m : Int) := by omega
              have d4 : (0 : Int) ≤ (ri : Int) + (k : Int) := by omega
              have d5 : (0 : Int) ≤ (rk : Int) + (j : Int) := by omega
              have d6 : (0 : Int) ≤ (ri : Int) + (j : Int) := by omega
              have t1 : ((ri : Int) + (k : Int)).toNat = ri + k := by omega
              have t2 : ((rk : Int) + (j : Int)).toNat = rk + j := by omega
              have t3 : ((ri : Int) + (j : Int)).toNat = ri + j := by omega
              have HPUT := Lib.hid hML
              have HRI := Lib.hid hri
              clear hri hrk ei ek hL hML
              go_wp2_with fail
              go_quiet ((go_at_call 193; exact (HP.out _).mono (fun _ _ h => ⟨h.1, _, h.2.symm⟩)))
              generalize hwq : wr.drewN nq = wq
              have hqd : Drew wr wq := ⟨nq, hwq.symm⟩
              have HWQ := Lib.hid (HW.out.keep (by rw [hqd.heap]))
              have HAQ := Lib.hid (HA.out.new hqd.new)
              have c3 : wq.cell? ⟨g, ri + j, none⟩ = some (.int .i64 z) := by rw [← hwq]; exact c3
              have f3 : wq.frozen? ⟨g, ri + j, none⟩ = false := by rw [← hwq]; exact f3
              have hput := HWQ.out.set hn HPUT.out hit hjt (mn z (sumI x y))
              rw [← HCL.out] at hput
              rw [show i * (n + 1) = ri from HRI.out] at hput
              have HPUT2 := Lib.hid hput
              clear hqd hwq hput c1 c2 l1 l2
              by_cases hlt2 : sumI x y < z
              · rw [show mn z (sumI x y) = sumI x y by unfold mn; rw [if_pos hlt2]] at HPUT2
                go_wp2_with fail
                exact ⟨⟨j + 1, by omega, by go_num, (by rw [HST.out]; exact HPUT2.out), HAQ.out.set _ _⟩, by simp [intOf] <;> omega⟩
              · have hno := HSAME.out (Int.not_lt.1 hlt2)
                have HNO := Lib.hid hno
                clear hno
                go_wp2_with fail
                exact ⟨⟨j + 1, by omega, by go_num, (by show WideAt _ _ _ _ _ _ _; rw [HST.out, HNO.out]; exact HWQ.out), HAQ.out⟩, by simp [intOf] <;> omega⟩
            · have hje : j = n + 1 := by omega
              subst hje
              have hjtz : ¬ (((n + 1 : Nat) : Int) ≤ (n : Int)) := by omega
              have hrow : lp (fun i L => rowL n k i L) (i + 1) (lp (roundQ n) k L) = lp (fun j L => cellL k i j L) (n + 1) (lp (fun i L => rowL n k i L) i (lp (roundQ n) k L)) := rfl
              have HROW := Lib.hid hrow
              clear hrow
              go_wp2_with fail
              exact ⟨⟨i + 1, by omega, by go_num, (by show WideAt _ _ _ _ _ _ _; rw [HROW.out]; exact HW.out), HA.out⟩, by simp [intOf] <;> omega⟩
        · have hie : i = n + 1 := by omega
          subst hie
          have hitz : ¬ (((n + 1 : Nat) : Int) ≤ (n : Int)) := by omega
          have hrd : lp (roundQ n) (k + 1) L = lp (fun i L => rowL n k i L) (n + 1) (lp (roundQ n) k L) := rfl
          have HW2 : Hid (WideAt wr base g n m c (lp (roundQ n) (k + 1) L)) := HW
          have hML : (lp (roundQ n) (k + 1) L).length = 81 := by rw [lp_length _ (fun k L => roundQ_length n k L)]; exact hL
          clear HW hrd
          go_wp2_with fail
          obtain ⟨wi, rfl⟩ : ∃ wi : World, wi = wr := ⟨_, rfl⟩
          go_loopw [9] (fun cv wr => wr = wi ∧ ∃ p : Nat, p ≤ n + 1 ∧ cv = .int .i64 p ∧ Hid (∀ i, i < p → 1 ≤ gt (lp (roundQ n) (k + 1) L) (10 * i)))
            (fun cv _ => n + 1 - (intOf cv).toNat)
          case atStart => exact ⟨rfl, 0, by omega, rfl, fun i hi => absurd hi (Nat.not_lt_zero _)⟩
          case round =>
            obtain ⟨rfl, p, hp, rfl, HP⟩ := hrel
            by_cases hpt : p ≤ n
            · have hptz : (p : Int) ≤ (n : Int) := by omega
              obtain ⟨c1, l1, _⟩ := HW2.out.cell hpt hpt
              have sp := sq_le (a := p) (n := n) (by omega) hn
              rw [show 9 * p + p = 10 * p by omega] at c1
              obtain ⟨x, hx⟩ : ∃ x, gt (lp (roundQ n) (k + 1) L) (10 * p) = x := ⟨_, rfl⟩
              rw [hx] at c1
              obtain ⟨rp, hrp⟩ : ∃ r, p * (n + 1) = r := ⟨_, rfl⟩
              have ep : (p : Int) * ((n : Int) + 1) = (rp : Int) := by rw [← hrp]; push_cast; rfl
              rw [hrp] at c1 l1 sp
              have e1 : IntKind.i64.wrap ((p : Int) * ((n : Int) + 1)) = (rp : Int) := by rw [ep, IntKind.wrap_i64]; omega
              have e3 : IntKind.i64.wrap ((rp : Int) + (p : Int)) = (rp : Int) + (p : Int) := by rw [IntKind.wrap_i64]; omega
              have d1 : (rp : Int) + (p : Int) < (m : Int) := by omega
              have d4 : (0 : Int) ≤ (rp : Int) + (p : Int) := by omega
              have t1 : ((rp : Int) + (p : Int)).toNat = rp + p := by omega
              clear hrp ep hL hML
              by_cases hneg : x < 1
              · have hst := rounds_stop hn HB.out.1 (fun k' hk' i hi => Int.not_lt.2 (HOK.out k' hk' i hi)) hlt hpt (by rw [hx]; exact hneg)
                have HST := Lib.hid hst
                clear hst hx
                go_wp2_with fail
                go_ret
                exact ⟨by rw [HST.out]; rfl, HA.out, fun L' h => by rw [HST.out] at h; cases h⟩
              · have HX := Lib.hid hx
                clear hx
                go_wp2_with fail
                exact ⟨⟨trivial, p + 1, by omega, by go_num, fun i hi => by
                  by_cases e : i = p
                  · subst e; rw [HX.out]; exact Int.not_lt.1 hneg
                  · exact HP.out i (by omega)⟩, by simp [intOf] <;> omega⟩
            · have hpe : p = n + 1 := by omega
              subst hpe
              have hptz : ¬ (((n + 1 : Nat) : Int) ≤ (n : Int)) := by omega
              go_wp2_with fail
              exact ⟨⟨k + 1, by omega, by go_num, fun k' hk' i hi => by
                by_cases e : k' = k
                · subst e; exact HP.out i (by omega)
                · exact HOK.out k' (by omega) i hi, HW2.out, HA.out⟩, by simp [intOf] <;> omega⟩
    · have hke : k = n + 1 := by omega
      subst hke
      have hltz : ¬ (((n + 1 : Nat) : Int) ≤ (n : Int)) := by omega
      have hcl := rounds_close hn HB.out.1 (fun k' hk' i hi => Int.not_lt.2 (HOK.out k' hk' i hi))
      have HCL := Lib.hid hcl
      clear hcl hL
      go_wp2_with fail
      go_ret
      exact ⟨by rw [HCL.out]; rfl, HA.out, fun L' h => by rw [HCL.out] at h; injection h with h; subst h; exact HW.out⟩
end Go.Proofs.Ytapfihlgemejiaa
namespace Go.Proofs.Ytapfihlgemejiaa
open Go.RowKit Go.Proofs.YtapfihlgemejiaaW.PrintLast
theorem infoOf2 : (Try.prog.info? 2).map (fun i => (i.zero, i.size, i.bytes)) = some (some (.int .i64 0), 1, 8) := by kernel_rfl
def wideV (x : Int) : Int := if x = INF then NONE else x
theorem gt_mem {l : List Int} {t : Nat} (h : t < l.length) : gt l t ∈ l := by unfold gt; rw [List.getD_eq_getElem?_getD, List.getElem?_eq_getElem h]; exact List.getElem_mem h
theorem take_map_succ (f : Int → Int) (k : IntKind) {l : List Int} {t : Nat} (h : t < l.length) : ((l.map f).take (t + 1)).map (Value.int k) = ((l.map f).take t).map (Value.int k) ++ [.int k (f (gt l t))] := by
  rw [List.take_succ_eq_append_getElem (by simpa using h), List.map_append]
  unfold gt
  rw [List.getD_eq_getElem?_getD, List.getElem?_eq_getElem h]
  simp
set_option maxRecDepth 100000 in
set_option maxHeartbeats 4000000 in
theorem rwide_any (A : Option Addr) (c : Nat) (l : List Int) (w : World) (hA : Elems w w.heap.size A (ints32 l)) (hl : l.length ≤ 81) (hr : ∀ x ∈ l, rightB x = true) :
    Calls Try.prog 145 #[.slice A l.length c] w fun e w' => ∃ v, e = .returned v ∧ w'.ownsRow w.heap.size 2 1 v l.length (ints64 (l.map wideV)) ∧ New w w' := by
  obtain ⟨i0, hi0, hz0, hz1, hz2⟩ := info_parts infoOf2
  have HA := Lib.hid hA
  have HR := Lib.hid hr
  clear hA hr
  obtain ⟨m, hm⟩ : ∃ m, l.length = m := ⟨_, rfl⟩
  rw [hm] at hl ⊢
  have HM := Lib.hid hm
  clear hm
  go_enter Try.func145, Try.ntmps145
  go_wp2_with fail
  go_loopw [3, 4] (fun v ci wr => ∃ t : Nat, t ≤ m ∧ ci = .int .i64 t ∧ Hid (wr.ownsRow w.heap.size 2 1 v t (ints64 ((l.map wideV).take t))) ∧ Hid (New w wr))
    (fun _ ci _ => m - (intOf ci).toNat)
  case atStart => exact ⟨0, Nat.zero_le _, by go_num, World.ownsRow_nil _ _ _ _, New.refl w⟩
  case round =>
    obtain ⟨t, ht, rfl, HO, HN⟩ := hrel
    by_cases htl : t < m
    · have htz : (t : Int) < m := by omega
      have htl' : t < l.length := by rw [HM.out]; exact htl
      obtain ⟨b, off, hAe, hb, hc⟩ := (HA.out.new HN.out (Nat.le_refl _)).ints (k := .i32) t htl'
      subst hAe
      have hsu := take_map_succ wideV .i64 htl'
      have hrx := HR.out _ (gt_mem htl')
      obtain ⟨x, hx⟩ : ∃ x, gt l t = x := ⟨_, rfl⟩
      rw [hx] at hc hsu hrx
      have HSU := Lib.hid hsu
      by_cases hi : x = INF
      · have hi' : x = 2147483647 := hi
        subst hi'
        have hN2 := (New.refl wr).alloc (.cells #[.int .i64 4611686018427387904] 2)
        have HOWN := Lib.hid (own_new HO.out hN2)
        have HEL := Lib.hid (elems_new wr 2 (.int .i64 4611686018427387904))
        have HSZ := Lib.hid (Nat.le_trans HN.out.size hN2.size)
        have HN2 := Lib.hid hN2
        clear hsu hrx hx hi hN2 hb
        go_wp2_with (at_builtin; (refine wpList_append_elems rfl _ _ 201 rfl w.heap.size 2 i0 (.int .i64 0) 1 8 Try.underlying201 hi0 hz0 hz1 hz2 rfl (by decide) _ t _ (by rfl) HOWN.out _ _ 1 1 _ (by rfl) HEL.out rfl ?c1 ?c2 ?c3 HSZ.out ?_))
        case c1 => intro y hy; simp at hy; subst hy; rfl
        case c2 => unfold maxLen; omega
        case c3 => omega
        intro v' w' ho' hg' hb'
        have hF := Fr.of_grown (S := fun k => Value.ownBlock _ = some k) hg' (fun k hk _ => hk)
        have hN3 : New w w' := Fr.then (HN.out.trans HN2.out) hF (fun _ _ e => e) (fun k hk e => by
          have h1 := (own_row HOWN.out e).1
          omega)
        have HO' := Lib.hid ho'
        clear ho' hg' hb' hF
        go_wp2_with fail
        refine ⟨⟨t + 1, by omega, by go_num, ?_, hN3⟩, by simp [intOf] <;> omega⟩
        show World.ownsRow _ _ _ _ _ _ _
        have h1 := HO'.out
        unfold ints64 at h1 ⊢
        rw [HSU.out]
        exact h1
      · have hi' : (x == 2147483647) = false := by unfold INF at hi; simpa using hi
        have hw : IntKind.i64.wrap x = x := by
          unfold rightB at hrx
          rw [IntKind.wrap_i64]
          simp only [decide_eq_true_eq] at hrx
          unfold INF at hrx
          omega
        have hwv : wideV x = x := by unfold wideV; rw [if_neg hi]
        rw [hwv] at HSU
        have hN2 := (New.refl wr).alloc (.cells #[.int .i64 x] 2)
        have HOWN := Lib.hid (own_new HO.out hN2)
        have HEL := Lib.hid (elems_new wr 2 (.int .i64 x))
        have HSZ := Lib.hid (Nat.le_trans HN.out.size hN2.size)
        have HN2 := Lib.hid hN2
        clear hsu hrx hx hi hN2 hb hwv
        go_wp2_with (at_builtin; (refine wpList_append_elems rfl _ _ 201 rfl w.heap.size 2 i0 (.int .i64 0) 1 8 Try.underlying201 hi0 hz0 hz1 hz2 rfl (by decide) _ t _ (by rfl) HOWN.out _ _ 1 1 _ (by rfl) HEL.out rfl ?c1 ?c2 ?c3 HSZ.out ?_))
        case c1 => intro y hy; simp at hy; subst hy; rfl
        case c2 => unfold maxLen; omega
        case c3 => omega
        intro v' w' ho' hg' hb'
        have hF := Fr.of_grown (S := fun k => Value.ownBlock _ = some k) hg' (fun k hk _ => hk)
        have hN3 : New w w' := Fr.then (HN.out.trans HN2.out) hF (fun _ _ e => e) (fun k hk e => by
          have h1 := (own_row HOWN.out e).1
          omega)
        have HO' := Lib.hid ho'
        clear ho' hg' hb' hF
        go_wp2_with fail
        refine ⟨⟨t + 1, by omega, by go_num, ?_, hN3⟩, by simp [intOf] <;> omega⟩
        show World.ownsRow _ _ _ _ _ _ _
        have h1 := HO'.out
        unfold ints64 at h1 ⊢
        rw [HSU.out]
        exact h1
    · have htz : ¬ (t : Int) < m := by omega
      have hte : t = m := by omega
      have h1 := HO.out
      rw [hte, List.take_of_length_le (by rw [List.length_map, HM.out]; exact Nat.le_refl _)] at h1
      have HO2 := Lib.hid h1
      clear h1 hte
      go_wp2_with fail
      go_ret
      exact ⟨_, rfl, HO2.out, HN.out⟩
/-- A zone of the document's package. -/
structure RefAt (w : World) (b : Nat) (z : Zn) : Prop where
  row : ∃ A c, Row w b 214 [.int .i64 z.n, .slice A ((z.n + 1) * (z.n + 1)) c] ∧ ElemsT w 76 A (ints32 (cellsOf z))
  dim : z.n ≤ 8
  len : z.Z.length = 81
theorem RefAt.new {w w' : World} {b : Nat} {z : Zn} (h : RefAt w b z) (hn : New w w') : RefAt w' b z := by
  obtain ⟨A, c, h1, h2⟩ := h.row
  exact ⟨⟨A, c, hn.row h1, h2.keeps hn.keeps (by decide) (by decide)⟩, h.dim, h.len⟩
theorem dense_zeros (n : Nat) (hn : n ≤ 8) : cellsOf ⟨n, zeros⟩ = List.replicate ((n + 1) * (n + 1)) 0 := by
  rcases (show n = 0 ∨ n = 1 ∨ n = 2 ∨ n = 3 ∨ n = 4 ∨ n = 5 ∨ n = 6 ∨ n = 7 ∨ n = 8 by omega) with rfl | rfl | rfl | rfl | rfl | rfl | rfl | rfl | rfl <;> decide +kernel
set_option maxRecDepth 100000 in
set_option maxHeartbeats 4000000 in
theorem rempty1_any (n : Nat) (w : World) (hn : n ≤ 8) : Calls Try.prog 181 #[.int .i64 n] w fun e w' => (∃ g, e = .returned (.pointer (some ⟨g, 0, none⟩)) ∧ w.heap.size ≤ g ∧ RefAt w' g ⟨n, zeros⟩) ∧ New w w' := by
  obtain ⟨m, hm⟩ : ∃ m, (n + 1) * (n + 1) = m := ⟨_, rfl⟩
  have hsq : m ≤ 81 := by
    have h1 : (n + 1) * (n + 1) ≤ 9 * 9 := Nat.mul_le_mul (by omega) (by omega)
    omega
  have hmi : ((n : Int) + 1) * ((n : Int) + 1) = (m : Int) := by rw [← hm]; push_cast; rfl
  have w1 : IntKind.i64.wrap ((n : Int) + 1) = (n : Int) + 1 := by rw [IntKind.wrap_i64]; omega
  have w2 : IntKind.i64.wrap (((n : Int) + 1) * ((n : Int) + 1)) = (m : Int) := by rw [hmi, IntKind.wrap_i64]; omega
  have HM := Lib.hid hm
  clear hm hmi
  obtain ⟨i0, hi0, hz0, hz1, hz2⟩ := info_parts infoOf76
  obtain ⟨w4, hmk, hom, hgm⟩ := run_make_full (P := Try.prog) (w := w) w.heap.size 40 76 i0 (.int .i32 0) 1 Try.underlying40 hi0 hz0 hz1 .i64 .i64 m (by rw [hz2]; omega) (by unfold maxLen; omega) (Nat.le_refl _)
  have hom2 : w4.ownsRow w.heap.size 76 1 (.slice (some ⟨w.heap.size, 0, none⟩) m m) m (ints32 (List.replicate m 0)) := by
    have e : ints32 (List.replicate m 0) = (madeCells (Value.int .i32 0).cells (m * 1)).toList := by
      rw [Nat.mul_one]
      show _ = (madeCells #[.int .i32 0] m).toList
      rw [toList_madeCells_one]
      simp [ints32]
    rw [e]; exact hom
  have hN : New w w4 := Fr.of_grown hgm (fun k hk _ => by cases hk)
  have HO := Lib.hid hom2
  have HN := Lib.hid hN
  clear hom hom2 hgm hN
  go_enter Try.func181, Try.ntmps181
  go_wp2_with fail
  go_ret
  have hN4 := (New.refl w4).alloc (.cells #[.int .i64 (n : Int), .slice (some ⟨w.heap.size, 0, none⟩) m m] 214)
  refine ⟨⟨_, rfl, HN.out.size, ⟨⟨some ⟨w.heap.size, 0, none⟩, m, ?_, ?_⟩, hn, zeros_length⟩⟩, HN.out.trans hN4⟩
  · rw [show ((Zn.mk n zeros).n + 1) * ((Zn.mk n zeros).n + 1) = m from HM.out]
    exact heap_alloc_new w4 _
  · rw [dense_zeros n hn, HM.out]
    exact elemsT_of_own (own_new HO.out hN4)
/-- The first loop of made: the diagonal and the first row are no more than 1. -/
def low1 (i : Nat) (L : List Int) : List Int :=
  let M := if 1 < gt L (10 * i) then st L (10 * i) 1 else L
  if 1 < gt M i then st M i 1 else M
def lowL (n : Nat) (L : List Int) : List Int := lp low1 (n + 1) L
theorem low1_length (i : Nat) (L : List Int) : (low1 i L).length = L.length := by
  unfold low1
  simp only
  split <;> split <;> simp [st_length]
theorem AllLt.low {n : Nat} {B : Int} {L : List Int} (hn : n ≤ 8) (hB : 1 ≤ B) {i : Nat} (hi : i ≤ n) (h : AllLt n B L) : AllLt n B (low1 i L) := by
  refine ⟨by rw [low1_length]; exact h.1, fun p q hp hq => ?_⟩
  have hs : ∀ (M : List Int) (t : Nat), M.length = 81 → t < 81 → Lt B (gt M (9 * p + q)) → Lt B (gt (st M t 1) (9 * p + q)) := fun M t hM ht hlt => by
    rw [gt_st _ _ _ _ (by omega)]
    split
    · exact .inr (by omega)
    · exact hlt
  have h0 := h.2 p q hp hq
  have hl := h.1
  unfold low1
  simp only
  split
  · split
    · exact hs _ _ (by rw [st_length]; exact hl) (by omega) (hs _ _ hl (by omega) h0)
    · exact hs _ _ hl (by omega) h0
  · split
    · exact hs _ _ hl (by omega) h0
    · exact h0
theorem AllLt.lows {n : Nat} {B : Int} {L : List Int} (hn : n ≤ 8) (hB : 1 ≤ B) (h : AllLt n B L) : ∀ m, m ≤ n + 1 → AllLt n B (lp low1 m L)
  | 0, _ => h
  | m + 1, hm => AllLt.low hn hB (by omega) (h.lows hn hB m (by omega))
end Go.Proofs.Ytapfihlgemejiaa
