/- Walks over package dbm: close. | Walks over package dbm: the zone of wide cells. -/
import Derived.Test.YtapfihlgemejiaaD0
import Derived.Test.YtapfihlgemejiaaM0
-- Walks over package dbm: close.
namespace Go.Proofs.Ytapfihlgemejiaa
open Go.RowKit

theorem close_none {n : Nat} {L L1 L2 : List Int} {k i : Nat} (hk : k < n + 1) (hi : i < n + 1) (h1 : lpO (fun k L => lpO (fun i L => rowO n k i L) (n + 1) L) k L = some L1)
    (h2 : lpO (fun i L => rowO n k i L) i L1 = some L2) (h3 : rowO n k i L2 = none) : closeL n L = none := by
  have e2 : lpO (fun i L => rowO n k i L) (i + 1) L1 = none := by rw [lpO_succ, h2]; exact h3
  have e3 := lpO_none _ _ (n + 1) _ e2 (by omega)
  have e4 : lpO (fun k L => lpO (fun i L => rowO n k i L) (n + 1) L) (k + 1) L = none := by rw [lpO_succ, h1]; exact e3
  exact lpO_none _ _ (n + 1) _ e4 (by omega)

set_option maxRecDepth 100000 in
set_option maxHeartbeats 1000000 in
theorem close_any (b n : Nat) (L : List Int) (w : World) (hn : n ≤ 8) (hL : L.length = 81) (hs : Safe n L) (hw : Row w b 218 (wideRow n L)) :
    Calls Try.prog 157 #[.pointer (some ⟨b, 0, none⟩)] w fun e w' => e = .returned (.bool (closeL n L).isSome) ∧
      At b w w' ∧ ∀ L', closeL n L = some L' → Row w' b 218 (wideRow n L') := by
  have hd := wide_dim hw
  go_enter Try.func157, Try.ntmps157
  go_wp2
  go_loopw [11] (fun c wr => ∃ (k : Nat) (L1 : List Int), k ≤ n + 1 ∧ c = .int .i64 k ∧ lpO (fun k L => lpO (fun i L => rowO n k i L) (n + 1) L) k L = some L1 ∧ Row wr b 218 (wideRow n L1) ∧ At b w wr)
    (fun c _ => n + 1 - (intOf c).toNat)
  case atStart => exact ⟨0, L, by omega, rfl, rfl, hw, At.refl b w⟩
  case round =>
    obtain ⟨k, L1, hk, rfl, h1, hr, hb⟩ := hrel
    clear hd
    have hd := wide_dim hr
    have hL1 : L1.length = 81 := by
      rw [lpO_length _ (fun _ _ _ h1 => lpO_length _ (fun _ _ _ h2 => rowO_length _ _ _ _ _ h2) _ _ _ h1) _ _ _ h1, hL]
    have H1 := Lib.hid h1
    clear h1
    by_cases hlt : k < n + 1
    · go_wp2
      obtain ⟨wo, rfl⟩ : ∃ wo : World, wo = wr := ⟨_, rfl⟩
      go_loopw [19] (fun c wr => ∃ (i : Nat) (L2 : List Int), i ≤ n + 1 ∧ c = .int .i64 i ∧ lpO (fun i L => rowO n k i L) i L1 = some L2 ∧ Row wr b 218 (wideRow n L2) ∧ At b w wr)
        (fun c _ => n + 1 - (intOf c).toNat)
      case atStart => exact ⟨0, L1, by omega, rfl, rfl, hr, hb⟩
      case round =>
        obtain ⟨i, L2, hi, rfl, h2, hr, hb⟩ := hrel
        clear hd
        have hd := wide_dim hr
        have hL2 : L2.length = 81 := by rw [lpO_length _ (fun _ _ _ h2 => rowO_length _ _ _ _ _ h2) _ _ _ h2, hL1]
        have H2 := Lib.hid h2
        clear h2
        by_cases hit : i < n + 1
        · go_wp2
          obtain ⟨wi, rfl⟩ : ∃ wi : World, wi = wr := ⟨_, rfl⟩
          go_loopw [27] (fun c wr => ∃ j : Nat, j ≤ n + 1 ∧ c = .int .i64 j ∧ Row wr b 218 (wideRow n (lp (fun j L => cellL k i j L) j L2)) ∧ At b w wr)
            (fun c _ => n + 1 - (intOf c).toNat)
          case atStart => exact ⟨0, by omega, rfl, hr, hb⟩
          case round =>
            obtain ⟨j, hj, rfl, hr, hb⟩ := hrel
            have hSt : lp (fun j L => cellL k i j L) (j + 1) L2 = cellL k i j (lp (fun j L => cellL k i j L) j L2) := rfl
            have HS := Lib.hid hSt
            clear hSt
            have hM : (lp (fun j L => cellL k i j L) j L2).length = 81 := by rw [lp_length _ (fun j L => cellL_length k i j L), hL2]
            by_cases hjt : j < n + 1
            · have hbd : Bd 1152921504606846976 (lp (fun j L => cellL k i j L) j L2) := hs k (by omega) L1 H1.out i (by omega) L2 H2.out j (by omega)
              generalize lp (fun j L => cellL k i j L) j L2 = M at *
              have hc1 := wide_at hr i j hM (by omega) (by omega)
              have hc2 := wide_at hr i k hM (by omega) (by omega)
              have hc3 := wide_at hr k j hM (by omega) (by omega)
              have hf := hr.free (1 + i * 9 + j)
              have hput := wide_put hr i j (mn (gt M (9 * i + j)) (sumI (gt M (9 * i + k)) (gt M (9 * k + j))))
              have hb2 := hb.set (1 + i * 9 + j) (.int .i64 (mn (gt M (9 * i + j)) (sumI (gt M (9 * i + k)) (gt M (9 * k + j)))))
              have hsum := fun w => sum_any (gt M (9 * i + k)) (gt M (9 * k + j)) w (hbd _) (hbd _)
              have HSum := Lib.hid hsum
              clear hsum
              clear hbd hd hL hL1 hL2
              have hi9 : (i : Int) < 9 := by omega
              have hj9 : (j : Int) < 9 := by omega
              have hk9 : (k : Int) < 9 := by omega
              go_wp2
              refine wp_region_still_tail 33 (by kernel_rfl) (by kernel_rfl) ?_
              simp only [List.take_succ_cons, List.take_zero, List.drop_succ_cons, List.drop_zero]
              refine still_of_quiet _ _ ?_
              repeat (first | go_big_quiet_skip | (go_big_quiet_want; go_big_quiet_op; first | go_big_quiet_on | (apply Exists.intro; refine ⟨?_, ?_⟩; exact (HSum.out _).mono (fun _ _ h => ⟨h.1, h.2.symm⟩); go_big_quiet_on)))
              refine wpQuiet_nil ?_
              go_wp2
              rw [ite_mn]
              refine ⟨⟨j + 1, by omega, by go_num, ?_, hb2.drew⟩, by simp [intOf]; omega⟩
              rw [HS.out]; exact hput.drew
            · have : j = n + 1 := by omega
              subst this
              clear HS
              have hrow : rowL n k i L2 = lp (fun j L => cellL k i j L) (n + 1) L2 := rfl
              rw [← hrow] at hr hM
              clear hrow
              have hd := wide_dim hr
              have hc1 := wide_at hr i i hM (by omega) (by omega)
              rw [show 9 * i + i = 10 * i by omega] at hc1
              have hi9 : (i : Int) < 9 := by omega
              by_cases hneg : gt (rowL n k i L2) (10 * i) < 1
              · have hno : closeL n L = none := close_none hlt hit H1.out H2.out (by unfold rowO; rw [if_pos hneg])
                have HN := Lib.hid hno
                clear hno hL hL1 hL2
                go_wp2
                go_ret
                exact ⟨by rw [HN.out]; rfl, hb, fun L' h => by rw [HN.out] at h; cases h⟩
              · have hyes : lpO (fun i L => rowO n k i L) (i + 1) L1 = some (rowL n k i L2) := by
                  rw [lpO_succ, H2.out]; show rowO n k i L2 = _; unfold rowO; rw [if_neg hneg]
                have HY := Lib.hid hyes
                clear hyes hL hL1 hL2
                go_wp2
                exact ⟨⟨i + 1, rowL n k i L2, by omega, by go_num, HY.out, hr, hb⟩, by simp [intOf]; omega⟩
        · have : i = n + 1 := by omega
          subst this
          have hyes : lpO (fun k L => lpO (fun i L => rowO n k i L) (n + 1) L) (k + 1) L = some L2 := by rw [lpO_succ, H1.out]; exact H2.out
          have HY := Lib.hid hyes
          clear hyes hL hL1 hL2
          go_wp2
          exact ⟨⟨k + 1, L2, by omega, by go_num, HY.out, hr, hb⟩, by simp [intOf]; omega⟩
    · have : k = n + 1 := by omega
      subst this
      have hyes : closeL n L = some L1 := H1.out
      have HY := Lib.hid hyes
      clear hyes hL hL1
      go_wp2
      go_ret
      exact ⟨by rw [HY.out]; rfl, hb, fun L' h => by rw [HY.out] at h; cases h; exact hr⟩
end Go.Proofs.Ytapfihlgemejiaa
-- Walks over package dbm: the zone of wide cells.
namespace Go.Proofs.Ytapfihlgemejiaa
open Go.RowKit

/-- What a call that makes a zone answers: a new block of a zone's cells, or an error. -/
def ZRet (w : World) (n : Int) (r : ZR) (e : Ending) (w' : World) : Prop :=
  match r with
  | .err c => e = .returned (.tuple #[.pointer none, .int .i64 c])
  | .ok Z => ∃ g, e = .returned (.tuple #[.pointer (some ⟨g, 0, none⟩), .int .i64 0]) ∧ w.heap.size ≤ g ∧ Row w' g 177 (zoneRow n Z)

theorem matrix_new (w : World) (n : Int) : Row (w.alloc (.cells (Try.zeroCells175.setIfInBounds 0 (.int .i64 n)) 175)) w.heap.size 175 (zoneRow n zeros) := by
  have h : Try.zeroCells175.setIfInBounds 0 (.int .i64 n) = (zoneRow n zeros).toArray := by rfl
  rw [h]; exact Row.new _ _ _

theorem zoneRow_length (n : Int) (L : List Int) : (zoneRow n L).length = L.length + 1 := by simp [zoneRow]
def zero177 : List Value := zoneRow 0 zeros
theorem zero177_run (w : World) : (zeroValue 177).run Try.prog w = .ok (.agg zero177.toArray) w := by kernel_rfl
theorem size175_run (w : World) : (sizeOf 175).run Try.prog w = .ok zero177.length w := by kernel_rfl
theorem info175 : (Try.prog.info? 175).map (·.size) = some 82 := by kernel_rfl

theorem zoneOf_none {n : Nat} {L : List Int} (h : closeL n L = none) : zoneOf n L = .ok zeros := by unfold zoneOf; rw [h]
theorem zoneOf_err {n : Nat} {L L1 : List Int} (h : closeL n L = some L1) (h2 : zoneL n L1 = none) : zoneOf n L = .err 10 := by unfold zoneOf; rw [h]; simp only [h2]
theorem zoneOf_some {n : Nat} {L L1 Z : List Int} (h : closeL n L = some L1) (h2 : zoneL n L1 = some Z) : zoneOf n L = .ok Z := by unfold zoneOf; rw [h]; simp only [h2]
theorem zoneL_none {n : Nat} {L Z1 Z2 : List Int} {i j : Nat} (hi : i < n + 1) (hj : j < n + 1) (h1 : lpO (fun i Z => lpO (fun j Z => outL L i j Z) (n + 1) Z) i zeros = some Z1)
    (h2 : lpO (fun j Z => outL L i j Z) j Z1 = some Z2) (h3 : outL L i j Z2 = none) : zoneL n L = none := by
  have e2 : lpO (fun j Z => outL L i j Z) (j + 1) Z1 = none := by rw [lpO_succ, h2]; exact h3
  have e3 := lpO_none _ _ (n + 1) _ e2 (by omega)
  have e4 : lpO (fun i Z => lpO (fun j Z => outL L i j Z) (n + 1) Z) (i + 1) zeros = none := by rw [lpO_succ, h1]; exact e3
  exact lpO_none _ _ (n + 1) _ e4 (by omega)

set_option maxRecDepth 100000 in
set_option maxHeartbeats 1000000 in
theorem zone_any (b n : Nat) (L : List Int) (w : World) (hn : n ≤ 8) (hL : L.length = 81) (hs : Safe n L) (hw : Row w b 218 (wideRow n L)) :
    Calls Try.prog 87 #[.pointer (some ⟨b, 0, none⟩)] w fun e w' => ZRet w n (zoneOf n L) e w' ∧ At b w w' := by
  have hd := wide_dim hw
  go_enter Try.func87, Try.ntmps87
  go_wp2_with fail
  have hm0 := matrix_new w n
  have hb0 : At b w (w.alloc (.cells (Try.zeroCells175.setIfInBounds 0 (.int .i64 (n : Int))) 175)) := (At.refl b w).new ((New.refl w).alloc _)
  have hw0 := hw.alloc (.cells (Try.zeroCells175.setIfInBounds 0 (.int .i64 (n : Int))) 175)
  have hlt := hw.lt
  generalize w.alloc (.cells (Try.zeroCells175.setIfInBounds 0 (.int .i64 (n : Int))) 175) = w0 at *
  clear hd hw
  refine (close_any b n L w0 hn hL hs hw0).mono ?_
  rintro e w1 ⟨rfl, hb1, hc⟩
  have hm1 := hb1.row hm0 (by omega)
  have hb := hb0.trans hb1
  clear hw0 hm0 hb0 hb1
  cases hcl : closeL n L with
  | none =>
    have hz := zoneOf_none hcl
    have HZ := Lib.hid hz
    clear hz hc hcl hL
    go_wp2_with (first | (refine wpList_load_Row rfl 175 _ rfl _ rfl 175 _ _ hm1 Try.underlying175 rfl (by rw [zoneRow_length, zeros_length]; exact info175) ?_) | (refine wpList_build_one rfl 177 175 _ rfl _ rfl _ zero177 Try.underlying177 rfl rfl zero177_run size175_run (by rfl) ?_))
    go_ret2
    rw [HZ.out]
    exact ⟨⟨_, rfl, by have := hm1.lt; have := hb.size; omega, Row.new _ _ _⟩, hb.new ((New.refl _).alloc _)⟩
  | some L1 =>
    have hr := hc L1 hcl
    have hL1 : L1.length = 81 := by rw [closeL_length _ _ _ hcl, hL]
    have HC := Lib.hid hcl
    clear hcl hc hL
    have hd := wide_dim hr
    go_wp2
    go_loopw [27] (fun c wr => ∃ (i : Nat) (Z : List Int), i ≤ n + 1 ∧ c = .int .i64 i ∧ lpO (fun i Z => lpO (fun j Z => outL L1 i j Z) (n + 1) Z) i zeros = some Z ∧ Row wr w.heap.size 175 (zoneRow n Z) ∧ Row wr b 218 (wideRow n L1) ∧ At b w wr)
      (fun c _ => n + 1 - (intOf c).toNat)
    case atStart => exact ⟨0, zeros, by omega, rfl, rfl, hm1, hr, hb⟩
    case round =>
      obtain ⟨i, Z, hi, rfl, h1, hm, hr, hb⟩ := hrel
      clear hm1 hd
      have hd := wide_dim hr
      have hZ : Z.length = 81 := by
        rw [lpO_length _ (fun _ _ _ h1 => lpO_length _ (fun _ _ _ h2 => outL_length _ _ _ _ _ h2) _ _ _ h1) _ _ _ h1, zeros_length]
      have H1 := Lib.hid h1
      clear h1
      by_cases hit : i < n + 1
      · have hdt : decide ((i : Int) < (n : Int) + 1) = true := by simp; omega
        go_wp2
        clear hdt
        obtain ⟨wo, rfl⟩ : ∃ wo : World, wo = wr := ⟨_, rfl⟩
        go_loopw [35] (fun c wr => ∃ (j : Nat) (Z2 : List Int), j ≤ n + 1 ∧ c = .int .i64 j ∧ lpO (fun j Z => outL L1 i j Z) j Z = some Z2 ∧ Row wr w.heap.size 175 (zoneRow n Z2) ∧ Row wr b 218 (wideRow n L1) ∧ At b w wr)
          (fun c _ => n + 1 - (intOf c).toNat)
        case atStart => exact ⟨0, Z, by omega, rfl, rfl, hm, hr, hb⟩
        case round =>
          obtain ⟨j, Z2, hj, rfl, h2, hm, hr, hb⟩ := hrel
          clear hd
          have hd := wide_dim hr
          have hZ2 : Z2.length = 81 := by rw [lpO_length _ (fun _ _ _ h2 => outL_length _ _ _ _ _ h2) _ _ _ h2, hZ]
          have hS : lpO (fun j Z => outL L1 i j Z) (j + 1) Z = outL L1 i j Z2 := by rw [lpO_succ, h2]; rfl
          have HS := Lib.hid hS
          have H2 := Lib.hid h2
          clear h2 hS
          by_cases hjt : j < n + 1
          · have hc1 := wide_at hr i j hL1 (by omega) (by omega)
            have hc2 := zone_at hm i j hZ2 (by omega) (by omega)
            have hf := hm.free (1 + i * 9 + j)
            have hi9 : (i : Int) < 9 := by omega
            have hj9 : (j : Int) < 9 := by omega
            have hput := fun v => zone_put hm i j v
            have hr2 := fun v => hr.far (p := ⟨w.heap.size, 1 + i * 9 + j, none⟩) (by show b ≠ w.heap.size; omega) v
            have hb2 : ∀ v, At b w (wr.setCell ⟨w.heap.size, 1 + i * 9 + j, none⟩ v) := fun v => Fr.set hb (.inr (Nat.le_refl _)) v
            have HP := Lib.hid hput
            have HR := Lib.hid hr2
            have HB := Lib.hid hb2
            clear hput hr2 hb2 hL1 hZ hZ2
            by_cases hno : gt L1 (9 * i + j) = NONE
            · have t1 : (gt L1 (9 * i + j) == 4611686018427387904) = true := by rw [hno]; rfl
              have ho : outL L1 i j Z2 = some (st Z2 (9 * i + j) INF) := by unfold outL; rw [if_pos hno]
              have HO := Lib.hid ho
              clear ho hno
              go_wp2
              exact ⟨⟨j + 1, _, by omega, by go_num, by rw [HS.out, HO.out], HP.out INF, HR.out _, HB.out _⟩, by simp [intOf]; omega⟩
            · have t1 : (gt L1 (9 * i + j) == 4611686018427387904) = false := by unfold NONE at hno; simpa using hno
              by_cases hbig : gt L1 (9 * i + j) < -536870912 ∨ 536870913 < gt L1 (9 * i + j)
              · have ho : outL L1 i j Z2 = none := by unfold outL; rw [if_neg hno, if_pos hbig]
                have hz := zoneOf_err HC.out (zoneL_none hit hjt H1.out H2.out ho)
                have HZ := Lib.hid hz
                clear ho hno hz
                rcases hbig with hb1 | hb1
                · go_wp2
                  go_ret2
                  rw [HZ.out]
                  exact ⟨rfl, hb⟩
                · have hb2 : -536870912 ≤ gt L1 (9 * i + j) := by omega
                  go_wp2
                  go_ret2
                  rw [HZ.out]
                  exact ⟨rfl, hb⟩
              · have ho : outL L1 i j Z2 = some (st Z2 (9 * i + j) (gt L1 (9 * i + j))) := by unfold outL; rw [if_neg hno, if_neg hbig]
                have HO := Lib.hid ho
                have hlo : -536870912 ≤ gt L1 (9 * i + j) := by omega
                have hhi : gt L1 (9 * i + j) ≤ 536870913 := by omega
                clear ho hno hbig
                go_wp2
                exact ⟨⟨j + 1, _, by omega, by go_num, by rw [HS.out, HO.out], HP.out _, HR.out _, HB.out _⟩, by simp [intOf]; omega⟩
          · have : j = n + 1 := by omega
            subst this
            have hyes : lpO (fun i Z => lpO (fun j Z => outL L1 i j Z) (n + 1) Z) (i + 1) zeros = some Z2 := by rw [lpO_succ, H1.out]; exact H2.out
            have HY := Lib.hid hyes
            clear hyes HS hL1 hZ hZ2
            go_wp2
            exact ⟨⟨i + 1, Z2, by omega, by go_num, HY.out, hm, hr, hb⟩, by simp [intOf]; omega⟩
      · have : i = n + 1 := by omega
        subst this
        have hz := zoneOf_some HC.out (Z := Z) H1.out
        have HZ := Lib.hid hz
        clear hz hL1
        have hZ2 : Z.length = 81 := hZ
        have HL := Lib.hid hZ2
        clear hZ hZ2
        go_wp2_with (first | (refine wpList_load_Row rfl 175 _ rfl _ rfl 175 _ _ hm Try.underlying175 rfl (by rw [zoneRow_length, HL.out]; exact info175) ?_) | (refine wpList_build_one rfl 177 175 _ rfl _ rfl _ zero177 Try.underlying177 rfl rfl zero177_run size175_run (by rw [zoneRow_length, HL.out]; rfl) ?_))
        go_ret2
        rw [HZ.out]
        exact ⟨⟨_, rfl, by have := hm.lt; have := hb.size; omega, Row.new _ _ _⟩, hb.new ((New.refl _).alloc _)⟩
end Go.Proofs.Ytapfihlgemejiaa
