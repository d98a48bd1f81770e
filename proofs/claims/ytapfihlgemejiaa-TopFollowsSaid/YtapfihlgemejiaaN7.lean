/- rat.wide: number. -/
import Derived.Test.YtapfihlgemejiaaN6
namespace Go.Proofs.Ytapfihlgemejiaa
open Go.RowKit

set_option maxHeartbeats 1000000 in
theorem number_yes (h l : Nat) (s : Bool) (n : Int) (hw : IsW h l s n) (hn : In64 n) (w : World) :
    Calls Try.prog 166 #[.agg #[.int .u64 h, .int .u64 l, .bool s]] w fun e w' => e = .returned (.tuple #[.int .i64 n, .bool true]) ∧ New w w' := by
  obtain ⟨h1, h2, h3, h4⟩ := hw
  obtain ⟨g1, g2⟩ := hn
  unfold two at h3
  obtain rfl : h = 0 := by omega
  cases s
  · have hn0 : ¬ n < 0 := by simpa using h4
    obtain rfl : n = (l : Int) := by omega
    have t1 : ¬ 9223372036854775808 < (l : Int) := by omega
    have t2 : ((l : Int) == 9223372036854775808) = false := by simp; omega
    clear h4 h3 hn0 h1
    go_enter Try.func166, Try.ntmps166
    go_wp2_with fail
    go_ret2
    exact ⟨rfl, (New.refl w).alloc _⟩
  · have hn0 : n < 0 := by simpa using h4
    have t1 : ¬ 9223372036854775808 < (l : Int) := by omega
    have e1 : wrap64 (IntKind.u64.wrap (-(l : Int))) = n := by rw [IntKind.wrap_u64]; unfold wrap64; omega
    rw [← e1]
    clear h4 h3 hn0 h1 g1 g2 e1
    by_cases t2 : l = 9223372036854775808
    · subst t2
      go_enter Try.func166, Try.ntmps166
      go_wp2_with fail

      go_ret2
      exact ⟨by simp, (New.refl w).alloc _⟩
    · have t2 : ((l : Int) == 9223372036854775808) = false := by simp; omega
      go_enter Try.func166, Try.ntmps166
      go_wp2_with fail
      go_ret2
      exact ⟨by simp, (New.refl w).alloc _⟩
set_option maxHeartbeats 1000000 in
theorem number_no (h l : Nat) (s : Bool) (n : Int) (hw : IsW h l s n) (hn : ¬ In64 n) (w : World) :
    Calls Try.prog 166 #[.agg #[.int .u64 h, .int .u64 l, .bool s]] w fun e w' => e = .returned (.tuple #[.int .i64 0, .bool false]) ∧ New w w' := by
  obtain ⟨h1, h2, h3, h4⟩ := hw
  unfold In64 at hn
  unfold two at h3
  by_cases hh : h = 0
  · subst hh
    by_cases hl : 9223372036854775808 < (l : Int)
    · clear h4 h3 hn
      go_enter Try.func166, Try.ntmps166
      go_wp2_with fail
      go_ret2
      exact ⟨rfl, (New.refl w).alloc _⟩
    · cases s
      · have hn0 : ¬ n < 0 := by simpa using h4
        obtain rfl : l = 9223372036854775808 := by omega
        clear h4 h3 hn hn0 hl
        go_enter Try.func166, Try.ntmps166
        go_wp2_with fail
        go_ret2
        exact ⟨rfl, (New.refl w).alloc _⟩
      · have hn0 : n < 0 := by simpa using h4
        omega
  · have h0 : 0 < (h : Int) := by omega
    clear h4 h3 hn hh
    go_enter Try.func166, Try.ntmps166
    go_wp2_with fail
    go_ret2
    exact ⟨rfl, (New.refl w).alloc _⟩
end Go.Proofs.Ytapfihlgemejiaa
