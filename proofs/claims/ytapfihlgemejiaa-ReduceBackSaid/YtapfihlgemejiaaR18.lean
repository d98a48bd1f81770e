/- ReduceClasses: every argument. -/
import Derived.Test.YtapfihlgemejiaaR17
namespace Go.Proofs.Ytapfihlgemejiaa
open Go.RowKit
set_option maxRecDepth 100000 in
set_option maxHeartbeats 2000000 in
theorem reduceClasses_err (n : Int) (k : Int) (hk0 : k ≠ 0) (v : Value) (w : World) (hof : Calls Try.prog 26 #[.int .i64 n, v] w fun e w' => ZRet w n (.err k) e w' ∧ New w w') :
    Calls Try.prog 15 #[.int .i64 n, v] w fun e w' => e = .returned (.bool true) ∧ Below w.heap.size w w' := by
  have HOF := Lib.hid hof
  have LV := Lib.hid live25_any
  clear hof
  go_enter Try.func15, Try.ntmps15
  go_wp2_with fail
  refine HOF.out.mono ?_
  rintro e w1 ⟨hz, hn1⟩
  have hz : e = .returned (.tuple #[.pointer none, .int .i64 k]) := hz
  subst hz
  have N1 := Lib.hid hn1
  clear hn1 HOF
  go_wp2_with fail
  refine (LV.out w1).mono ?_
  rintro e w2 ⟨rfl, hn2⟩
  go_wp2_with fail
  go_ret
  exact ⟨rfl, (N1.out.trans hn2).below (Nat.le_refl _)⟩
set_option maxRecDepth 100000 in
set_option maxHeartbeats 2000000 in
theorem reduceClasses_empty (n : Nat) (hn8 : n ≤ 8) (v : Value) (w : World) (hof : Calls Try.prog 26 #[.int .i64 n, v] w fun e w' => ZRet w n (.ok zeros) e w' ∧ New w w') :
    Calls Try.prog 15 #[.int .i64 n, v] w fun e w' => e = .returned (.bool true) ∧ Below w.heap.size w w' := by
  have HOF := Lib.hid hof
  have LV := Lib.hid live25_any
  clear hof
  go_enter Try.func15, Try.ntmps15
  go_wp2_with fail
  refine HOF.out.mono ?_
  rintro e w1 ⟨hzr, hn1⟩
  obtain ⟨g, rfl, hg, hr⟩ := hzr
  have hza : ZoneAt w1 g ⟨n, zeros⟩ := ⟨hr, zeros_length, hn8⟩
  have N1 := Lib.hid hn1
  have CL := Lib.hid (classes_empty g ⟨n, zeros⟩ w1 hza zeros_empty)
  have EM := Lib.hid (empty_any g ⟨n, zeros⟩ w1 hza)
  rw [show emptyB (Zn.mk n zeros).Z = true from zeros_empty] at EM
  clear hza hr hn1 HOF
  go_wp2_with fail
  refine CL.out.mono ?_
  rintro e w' ⟨k, rfl, rfl, rfl⟩
  go_wp2_with fail
  refine EM.out.mono ?_
  rintro e w' ⟨rfl, rfl⟩
  go_wp2_with fail
  refine (LV.out w1).mono ?_
  rintro e w2 ⟨rfl, hn2⟩
  go_wp2_with fail
  go_ret
  exact ⟨rfl, (N1.out.trans hn2).below (Nat.le_refl _)⟩
theorem reduceClasses_any (n : Int) (A : Option Addr) (c : Nat) (l : List Int) (w : World) (hl : BoundsIn w A l) :
    Calls Try.prog 15 #[.int .i64 n, .slice A l.length c] w fun e w' => e = .returned (.bool true) ∧ Below w.heap.size w w' := by
  have hof := of_any n A l.length c l w rfl hl.1
  cases hq : ofZ n l with
  | err k =>
    rw [hq] at hof
    have := ofZ_err hq
    exact reduceClasses_err n k (by omega) _ w hof
  | ok Z =>
    rw [hq] at hof
    obtain ⟨k, rfl, hk, _, ⟨_, hg⟩, _⟩ := ofZ_good hq
    rcases hg with h0 | h0
    · have h0 : Z = zeros := h0
      subst h0
      exact reduceClasses_empty k hk _ w hof
    · exact reduceClasses_main k Z h0 _ w hof
end Go.Proofs.Ytapfihlgemejiaa
