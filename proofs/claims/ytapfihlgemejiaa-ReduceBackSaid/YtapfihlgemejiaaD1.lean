/- Walks over package dbm: close. -/
import Derived.Test.YtapfihlgemejiaaD0
namespace Go.Proofs.Ytapfihlgemejiaa
open Go.RowKit

theorem close_none {n : Nat} {L L1 L2 : List Int} {k i : Nat} (hk : k < n + 1) (hi : i < n + 1) (h1 : lpO (fun k L => lpO (fun i L => rowO n k i L) (n + 1) L) k L = some L1)
    (h2 : lpO (fun i L => rowO n k i L) i L1 = some L2) (h3 : rowO n k i L2 = none) : closeL n L = none := by
  have e2 : lpO (fun i L => rowO n k i L) (i + 1) L1 = none := by rw [lpO_succ, h2]; exact h3
  have e3 := lpO_none _ _ (n + 1) _ e2 (by omega)
  have e4 : lpO (fun k L => lpO (fun i L => rowO n k i L) (n + 1) L) (k + 1) L = none := by rw [lpO_succ, h1]; exact e3
  exact lpO_none _ _ (n + 1) _ e4 (by omega)

set_option maxRecDepth 100000 in
set_option maxHeartbeats 1000000 in
theorem close_any (b n : Nat) (L : List Int) (w : World) (hn : n ≤ 8) (hL : L.length = 81) (hs : Safe n L) (hw : Row w b 218 (wideRow n L)) :
    Calls Try.prog 157 #[.pointer (some ⟨b, 0, none⟩)] w fun e w' => e = .returned (.bool (closeL n L).isSome) ∧
      At b w w' ∧ ∀ L', closeL n L = some L' → Row w' b 218 (wideRow n L') := by
  have hd := wide_dim hw
  go_enter Try.func157, Try.ntmps157
  go_wp2
  go_loopw [11] (fun c wr => ∃ (k : Nat) (L1 : List Int), k ≤ n + 1 ∧ c = .int .i64 k ∧ lpO (fun k L => lpO (fun i L => rowO n k i L) (n + 1) L) k L = some L1 ∧ Row wr b 218 (wideRow n L1) ∧ At b w wr)
    (fun c _ => n + 1 - (intOf c).toNat)
  case atStart => exact ⟨0, L, by omega, rfl, rfl, hw, At.refl b w⟩
  case round =>
    obtain ⟨k, L1, hk, rfl, h1, hr, hb⟩ := hrel
    clear hd
    have hd := wide_dim hr
    have hL1 : L1.length = 81 := by
      rw [lpO_length _ (fun _ _ _ h1 => lpO_length _ (fun _ _ _ h2 => rowO_length _ _ _ _ _ h2) _ _ _ h1) _ _ _ h1, hL]
    have H1 := Lib.hid h1
    clear h1
    by_cases hlt : k < n + 1
    · go_wp2
      obtain ⟨wo, rfl⟩ : ∃ wo : World, wo = wr := ⟨_, rfl⟩
      go_loopw [19] (fun c wr => ∃ (i : Nat) (L2 : List Int), i ≤ n + 1 ∧ c = .int .i64 i ∧ lpO (fun i L => rowO n k i L) i L1 = some L2 ∧ Row wr b 218 (wideRow n L2) ∧ At b w wr)
        (fun c _ => n + 1 - (intOf c).toNat)
      case atStart => exact ⟨0, L1, by omega, rfl, rfl, hr, hb⟩
      case round =>
        obtain ⟨i, L2, hi, rfl, h2, hr, hb⟩ := hrel
        clear hd
        have hd := wide_dim hr
        have hL2 : L2.length = 81 := by rw [lpO_length _ (fun _ _ _ h2 => rowO_length _ _ _ _ _ h2) _ _ _ h2, hL1]
        have H2 := Lib.hid h2
        clear h2
        by_cases hit : i < n + 1
        · go_wp2
          obtain ⟨wi, rfl⟩ : ∃ wi : World, wi = wr := ⟨_, rfl⟩
          go_loopw [27] (fun c wr => ∃ j : Nat, j ≤ n + 1 ∧ c = .int .i64 j ∧ Row wr b 218 (wideRow n (lp (fun j L => cellL k i j L) j L2)) ∧ At b w wr)
            (fun c _ => n + 1 - (intOf c).toNat)
          case atStart => exact ⟨0, by omega, rfl, hr, hb⟩
          case round =>
            obtain ⟨j, hj, rfl, hr, hb⟩ := hrel
            have hSt : lp (fun j L => cellL k i j L) (j + 1) L2 = cellL k i j (lp (fun j L => cellL k i j L) j L2) := rfl
            have HS := Lib.hid hSt
            clear hSt
            have hM : (lp (fun j L => cellL k i j L) j L2).length = 81 := by rw [lp_length _ (fun j L => cellL_length k i j L), hL2]
            by_cases hjt : j < n + 1
            · have hbd : Bd 1152921504606846976 (lp (fun j L => cellL k i j L) j L2) := hs k (by omega) L1 H1.out i (by omega) L2 H2.out j (by omega)
              generalize lp (fun j L => cellL k i j L) j L2 = M at *
              have hc1 := wide_at hr i j hM (by omega) (by omega)
              have hc2 := wide_at hr i k hM (by omega) (by omega)
              have hc3 := wide_at hr k j hM (by omega) (by omega)
              have hf := hr.free (1 + i * 9 + j)
              have hput := wide_put hr i j (mn (gt M (9 * i + j)) (sumI (gt M (9 * i + k)) (gt M (9 * k + j))))
              have hb2 := hb.set (1 + i * 9 + j) (.int .i64 (mn (gt M (9 * i + j)) (sumI (gt M (9 * i + k)) (gt M (9 * k + j)))))
              have hsum := fun w => sum_any (gt M (9 * i + k)) (gt M (9 * k + j)) w (hbd _) (hbd _)
              have HSum := Lib.hid hsum
              clear hsum
              clear hbd hd hL hL1 hL2
              have hi9 : (i : Int) < 9 := by omega
              have hj9 : (j : Int) < 9 := by omega
              have hk9 : (k : Int) < 9 := by omega
              go_wp2
              refine wp_region_still_tail 33 (by kernel_rfl) (by kernel_rfl) ?_
              simp only [List.take_succ_cons, List.take_zero, List.drop_succ_cons, List.drop_zero]
              refine still_of_quiet _ _ ?_
              repeat (first | go_big_quiet_skip | (go_big_quiet_want; go_big_quiet_op; first | go_big_quiet_on | (apply Exists.intro; refine ⟨?_, ?_⟩; exact (HSum.out _).mono (fun _ _ h => ⟨h.1, h.2.symm⟩); go_big_quiet_on)))
              refine wpQuiet_nil ?_
              go_wp2
              rw [ite_mn]
              refine ⟨⟨j + 1, by omega, by go_num, ?_, hb2.drew⟩, by simp [intOf]; omega⟩
              rw [HS.out]; exact hput.drew
            · have : j = n + 1 := by omega
              subst this
              clear HS
              have hrow : rowL n k i L2 = lp (fun j L => cellL k i j L) (n + 1) L2 := rfl
              rw [← hrow] at hr hM
              clear hrow
              have hd := wide_dim hr
              have hc1 := wide_at hr i i hM (by omega) (by omega)
              rw [show 9 * i + i = 10 * i by omega] at hc1
              have hi9 : (i : Int) < 9 := by omega
              by_cases hneg : gt (rowL n k i L2) (10 * i) < 1
              · have hno : closeL n L = none := close_none hlt hit H1.out H2.out (by unfold rowO; rw [if_pos hneg])
                have HN := Lib.hid hno
                clear hno hL hL1 hL2
                go_wp2
                go_ret
                exact ⟨by rw [HN.out]; rfl, hb, fun L' h => by rw [HN.out] at h; cases h⟩
              · have hyes : lpO (fun i L => rowO n k i L) (i + 1) L1 = some (rowL n k i L2) := by
                  rw [lpO_succ, H2.out]; show rowO n k i L2 = _; unfold rowO; rw [if_neg hneg]
                have HY := Lib.hid hyes
                clear hyes hL hL1 hL2
                go_wp2
                exact ⟨⟨i + 1, rowL n k i L2, by omega, by go_num, HY.out, hr, hb⟩, by simp [intOf]; omega⟩
        · have : i = n + 1 := by omega
          subst this
          have hyes : lpO (fun k L => lpO (fun i L => rowO n k i L) (n + 1) L) (k + 1) L = some L2 := by rw [lpO_succ, H1.out]; exact H2.out
          have HY := Lib.hid hyes
          clear hyes hL hL1 hL2
          go_wp2
          exact ⟨⟨k + 1, L2, by omega, by go_num, HY.out, hr, hb⟩, by simp [intOf]; omega⟩
    · have : k = n + 1 := by omega
      subst this
      have hyes : closeL n L = some L1 := H1.out
      have HY := Lib.hid hyes
      clear hyes hL hL1
      go_wp2
      go_ret
      exact ⟨by rw [HY.out]; rfl, hb, fun L' h => by rw [HY.out] at h; cases h; exact hr⟩
end Go.Proofs.Ytapfihlgemejiaa
