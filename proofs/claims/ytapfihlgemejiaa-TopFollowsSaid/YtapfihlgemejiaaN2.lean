/- rat.size: compare, over; rat.common. -/
import Derived.Test.YtapfihlgemejiaaN1
import Derived.Deep.RegionLaw
namespace Go.Proofs.Ytapfihlgemejiaa
open Go.RowKit

set_option maxHeartbeats 1000000 in
theorem compare_any (ah al bh bl : Nat) (h2 : al < 18446744073709551616) (h4 : bl < 18446744073709551616) (w : World) :
    Calls Try.prog 162 #[.agg #[.int .u64 ah, .int .u64 al], .agg #[.int .u64 bh, .int .u64 bl]] w fun e w' =>
      e = .returned (.int .i64 (cmpN (two ah al) (two bh bl))) ∧ New w w' := by
  rw [cmpN_two h2 h4]
  go_enter Try.func162, Try.ntmps162
  go_wp2_with fail
  have hor := cmpOr_any (w.heap.size + 1 + 1) (cmpN ah bh) (cmpN al bl) 2 (((w.alloc (Obj.cells #[Value.int IntKind.u64 ↑ah, Value.int IntKind.u64 ↑al] 159)).alloc
          (Obj.cells #[Value.int IntKind.u64 ↑bh, Value.int IntKind.u64 ↑bl] 159)).alloc
      (Obj.cells #[Value.int IntKind.i64 (cmpN ah bh), Value.int IntKind.i64 (cmpN al bl)] 3)).drew (by simp [go_sem]) (by simp [go_sem])
  have HOR := Lib.hid hor
  clear hor
  go_cut [4] (fun c4 w2 => c4 = .int .i64 (orI (cmpN ah bh) (cmpN al bl)) ∧ New w w2)
  case first =>
    go_region_law (go_simp; first
      | (go_at_call 187; refine (cmpCompare_any _ _ _).mono ?_; rintro e w2 ⟨rfl, rfl⟩)
      | (go_at_call 186; refine HOR.out.mono ?_; rintro e w2 ⟨rfl, rfl⟩))
    all_goals
      go_wp2
      go_meet
      case rel => exact ⟨rfl, ((((New.refl w).alloc _).alloc _).alloc _).drew⟩
  case rest =>
    obtain ⟨rfl, hn⟩ := hcut
    go_wp2
    go_ret
    exact ⟨rfl, hn⟩
end Go.Proofs.Ytapfihlgemejiaa
