/- reduce at nil and at empty zones; gnomonlaw25.live. -/
import Derived.Test.YtapfihlgemejiaaR14
import Derived.Test.YtapfihlgemejiaaF4
namespace Go.Proofs.Ytapfihlgemejiaa
open Go.RowKit
set_option maxHeartbeats 400000 in
theorem fewB_nil (w : World) : Calls Try.prog 67 #[.pointer none] w fun e w' => e = .returned (.tuple #[.slice none 0 0, .int .i64 1]) ∧ w = w' := by
  go_enter Try.func67, Try.ntmps67
  go_wp2
  go_ret2
  exact ⟨rfl, rfl⟩
set_option maxHeartbeats 400000 in
theorem classes_nil (w : World) : Calls Try.prog 70 #[.pointer none] w fun e w' => e = .returned (.tuple #[.slice none 0 0, .int .i64 1]) ∧ w = w' := by
  go_enter Try.func70, Try.ntmps70
  go_wp2
  go_ret2
  exact ⟨rfl, rfl⟩
set_option maxHeartbeats 400000 in
theorem classes_empty (b : Nat) (z : Zn) (w : World) (h : ZoneAt w b z) (he : emptyB z.Z = true) : Calls Try.prog 70 #[.pointer (some ⟨b, 0, none⟩)] w fun e w' => ∃ k, e = .returned (.tuple #[.slice none 0 0, .int .i64 k]) ∧ k = 14 ∧ w = w' := by
  have EM := Lib.hid (empty_any b z w h)
  rw [he] at EM
  clear h he
  go_enter Try.func70, Try.ntmps70
  go_wp2_with fail
  refine EM.out.mono ?_
  rintro e w' ⟨rfl, rfl⟩
  go_wp2_with fail
  go_ret2
  exact ⟨_, rfl, rfl, rfl⟩
set_option maxHeartbeats 400000 in
theorem fewB_empty (b : Nat) (z : Zn) (w : World) (h : ZoneAt w b z) (he : emptyB z.Z = true) :
    Calls Try.prog 67 #[.pointer (some ⟨b, 0, none⟩)] w fun e w' => ∃ v, e = .returned (.tuple #[v, .int .i64 0]) ∧ w'.ownsRow w.heap.size 100 3 v 1 (limRow [⟨0, 0, 0⟩]) ∧ New w w' := by
  have EM := Lib.hid (empty_any b z w h)
  rw [he] at EM
  clear h he
  have hb : ∀ w, (Instr.build 100 #[]).run Try.prog w = .ok (.agg #[.int .i64 0, .int .i64 0, .int .i32 0]) w := fun w => by kernel_rfl
  go_enter Try.func67, Try.ntmps67
  go_wp2_with fail
  refine EM.out.mono ?_
  rintro e w' ⟨rfl, rfl⟩
  go_wp2_with fail
  go_ret2
  refine ⟨_, rfl, ⟨rfl, .inr ⟨w.heap.size, 1, #[.int .i64 0, .int .i64 0, .int .i32 0], rfl, Nat.le_refl _, ?_, ?_, ?_, ?_, ?_⟩⟩, (New.refl w).alloc _⟩
  all_goals first | exact heap_alloc_new w _ | rfl | decide | simp
set_option maxHeartbeats 400000 in
theorem pack_nil (w : World) : Calls Try.prog 72 #[.pointer none] w fun e w' => e = .returned (.tuple #[.slice none 0 0, .int .i64 1]) ∧ w = w' := by
  have F := Lib.hid (fewB_nil w)
  go_enter Try.func72, Try.ntmps72
  go_wp2_with fail
  refine F.out.mono ?_
  rintro e w' ⟨rfl, rfl⟩
  go_wp2_with fail
  go_ret2
  exact ⟨rfl, rfl⟩
set_option maxRecDepth 100000 in
set_option maxHeartbeats 400000 in
theorem unpack_nil (w : World) : Calls Try.prog 76 #[.slice none 0 0] w fun e w' => e = .returned (.tuple #[.pointer none, .int .i64 7, .int .i64 0]) ∧ New w w' := by
  go_enter Try.func76, Try.ntmps76
  go_wp2_with fail
  go_ret3
  exact ⟨rfl, New.refl w⟩
def liveZ : List Int := [1, 1, 1, 0, 0, 0, 0, 0, 0, 1, 1, 1, 0, 0, 0, 0, 0, 0, 1, 1, 1, 0, 0, 0, 0, 0, 0] ++ List.replicate 54 0
theorem live_zero : zeroZ 2 = .ok liveZ := by kernel_rfl
theorem live_few : fewL liveZ 2 = [(1, 2), (2, 0)] := by kernel_rfl
theorem live_cells : Cells32 ⟨2, liveZ⟩ := fun i j hi hj => by
  have hi : i ≤ 2 := hi
  have hj : j ≤ 2 := hj
  have h1 : gt liveZ (9 * i + j) = 1 := by
    rcases (show i = 0 ∨ i = 1 ∨ i = 2 by omega) with rfl | rfl | rfl <;> rcases (show j = 0 ∨ j = 1 ∨ j = 2 by omega) with rfl | rfl | rfl <;> rfl
  right
  show Fin32 (gt liveZ (9 * i + j))
  rw [h1]
  unfold Fin32; omega
set_option maxHeartbeats 1000000 in
theorem live25_any (w : World) : Calls Try.prog 66 #[] w fun e w' => e = .returned (.bool true) ∧ New w w' := by
  have Z := Lib.hid (zero_main 2 w (by omega))
  go_enter Try.func66, Try.ntmps66
  go_wp2_with fail
  refine Z.out.mono ?_
  rintro e w1 ⟨hz, hn1⟩
  rw [show zeroZ ((2 : Nat) : Int) = .ok liveZ from live_zero] at hz
  obtain ⟨g, rfl, hg, hr⟩ := hz
  have hza : ZoneAt w1 g ⟨2, liveZ⟩ := ⟨hr, rfl, by decide⟩
  have F := fewB_any g ⟨2, liveZ⟩ w1 hza (by decide) live_cells
  simp only [live_few] at F
  have F := Lib.hid F
  have N1 := Lib.hid hn1
  clear hr hza hn1 Z
  go_wp2_with fail
  refine F.out.mono ?_
  rintro e w2 ⟨v, rfl, ho, hn2⟩
  obtain ⟨A, c, hv⟩ := own_form ho
  subst hv
  obtain ⟨g2, hg2, _, _, hc, _⟩ := own_cell ho (by decide)
  subst hg2
  have c0 := hc 0 (.int .i64 1) rfl
  have c1 := hc 1 (.int .i64 2) rfl
  have c3 := hc 3 (.int .i64 2) rfl
  have c4 := hc 4 (.int .i64 0) rfl
  have HN2 := Lib.hid hn2
  clear hc ho F hn2
  simp only [List.length_cons, List.length_nil] at *
  go_wp2_with fail
  go_ret
  exact ⟨rfl, N1.out.trans HN2.out⟩
set_option maxRecDepth 100000 in
set_option maxHeartbeats 400000 in
theorem reduceNone_any (v : Value) (w : World) : Calls Try.prog 16 #[v] w fun e w' => e = .returned (.bool true) ∧ Below w.heap.size w w' := by
  have F := Lib.hid (fewB_nil w)
  have C := Lib.hid (classes_nil w)
  have P := Lib.hid (pack_nil w)
  have U := Lib.hid (unpack_nil w)
  have L := Lib.hid live25_any
  go_enter Try.func16, Try.ntmps16
  go_wp2_with fail
  refine F.out.mono ?_
  rintro e w' ⟨rfl, rfl⟩
  go_wp2_with fail
  refine C.out.mono ?_
  rintro e w' ⟨rfl, rfl⟩
  go_wp2_with fail
  refine P.out.mono ?_
  rintro e w' ⟨rfl, rfl⟩
  go_wp2_with fail
  refine U.out.mono ?_
  rintro e w1 ⟨rfl, hn1⟩
  go_wp2_with fail
  refine (L.out w1).mono ?_
  rintro e w2 ⟨rfl, hn2⟩
  go_wp2_with fail
  go_ret
  exact ⟨rfl, (hn1.trans hn2).below (Nat.le_refl _)⟩
theorem reduceNone_row (A : Option Addr) (c : Nat) (l : List Int) (w : World) (_ : BytesIn w A l) : Calls Try.prog 16 #[.slice A l.length c] w fun e w' => e = .returned (.bool true) ∧ Below w.heap.size w w' := reduceNone_any _ w
end Go.Proofs.Ytapfihlgemejiaa
