/- rat.wide: sum of numbers of two signs, and of all. -/
import Derived.Test.YtapfihlgemejiaaN8
namespace Go.Proofs.Ytapfihlgemejiaa
open Go.RowKit

theorem compare_gt (ah al bh bl : Nat) (h2 : al < 18446744073709551616) (h4 : bl < 18446744073709551616) (w : World) (h : two bh bl < two ah al) :
    Calls Try.prog 162 #[.agg #[.int .u64 ah, .int .u64 al], .agg #[.int .u64 bh, .int .u64 bl]] w fun e w' =>
      e = .returned (.int .i64 1) ∧ New w w' := by
  have := compare_any ah al bh bl h2 h4 w
  rwa [cmpN_gt h] at this
theorem compare_eq (ah al bh bl : Nat) (h2 : al < 18446744073709551616) (h4 : bl < 18446744073709551616) (w : World) (h : two ah al = two bh bl) :
    Calls Try.prog 162 #[.agg #[.int .u64 ah, .int .u64 al], .agg #[.int .u64 bh, .int .u64 bl]] w fun e w' =>
      e = .returned (.int .i64 0) ∧ New w w' := by
  have := compare_any ah al bh bl h2 h4 w
  rwa [h, cmpN_eq] at this
theorem ends5 {w w2 w3 : World} {x y : Obj} (hn2 : New (((w.alloc x).alloc y).alloc (.cells #[.int .u64 0, .int .u64 0, .bool false] 161)) w2) (hn : New w2.drew w3) (h l : Nat) (s : Bool) :
    Row (((w3.setCell ⟨w.heap.size + 1 + 1, 0, none⟩ (.int .u64 (h : Int))).setCell ⟨w.heap.size + 1 + 1, 1, none⟩ (.int .u64 (l : Int))).setCell ⟨w.heap.size + 1 + 1, 2, none⟩ (.bool s)) (w.heap.size + 1 + 1) 161 (wideRow2 h l s) ∧
    New w (((w3.setCell ⟨w.heap.size + 1 + 1, 0, none⟩ (.int .u64 (h : Int))).setCell ⟨w.heap.size + 1 + 1, 1, none⟩ (.int .u64 (l : Int))).setCell ⟨w.heap.size + 1 + 1, 2, none⟩ (.bool s)) := by
  have r3 : Row w3 (w.heap.size + 1 + 1) 161 [.int .u64 0, .int .u64 0, .bool false] := hn.row ((hn2.row (Row.new_at ((w.alloc x).alloc y) 161 [.int .u64 0, .int .u64 0, .bool false] (by simp))).drew)
  have n3 : New w w3 := (((((New.refl w).alloc x).alloc y).alloc _).trans hn2).drew.trans hn
  exact ⟨((r3.set 0 (.int .u64 (h : Int))).set 1 (.int .u64 (l : Int))).set 2 (.bool s), new_set3 n3 (w.heap.size + 1 + 1) (by omega) 0 1 2 (.int .u64 (h : Int)) (.int .u64 (l : Int)) (.bool s)⟩
set_option maxHeartbeats 1000000 in
theorem sum_gt_true (ah al bh bl : Nat) (m n : Int) (ha : IsW ah al true m) (hb : IsW bh bl false n) (hs : two bh bl < two ah al) (w : World) :
    Calls Try.prog 110 #[.agg #[.int .u64 ah, .int .u64 al, .bool true], .agg #[.int .u64 bh, .int .u64 bl, .bool false]] w (WRes (m + n) w) := by
  have pl := fun W => kept2_of (less_ex ah al bh bl ha.1 ha.2.1 hb.1 hb.2.1 (Nat.le_of_lt hs) W)
  have cm := fun W => kept_of (compare_gt ah al bh bl ha.2.1 hb.2.1 W hs)
  have PL := Lib.hid pl
  have CM := Lib.hid cm
  have hw : ∀ h l : Nat, h < 18446744073709551616 ∧ l < 18446744073709551616 ∧ two h l = two ah al - two bh bl → IsW h l true (m + n) := by
    rintro h l ⟨h1, h2, h3⟩
    obtain ⟨_, _, a3, a4⟩ := ha
    obtain ⟨_, _, b3, b4⟩ := hb
    have a5 : m < 0 := by simpa using a4
    have b5 : ¬ n < 0 := by simpa using b4
    refine ⟨h1, h2, by omega, ?_⟩
    exact (decide_eq_true (by omega)).symm
  have HW := Lib.hid hw
  clear pl cm ha hb hs hw
  go_enter Try.func110, Try.ntmps110
  go_wp2_with fail
  refine (CM.out _).mono ?_
  rintro e w2 ⟨rfl, hc2, hf2, hz2, hn2⟩
  have A2 : Row w2 w.heap.size 161 (wideRow2 ah al true) := hn2.row (((Row.new_at w 161 (wideRow2 ah al true) rfl).alloc _).alloc _)
  have B2 : Row w2 (w.heap.size + 1) 161 (wideRow2 bh bl false) := hn2.row ((Row.new_at (w.alloc (.cells (wideRow2 ah al true).toArray 161)) 161 (wideRow2 bh bl false) (g := w.heap.size + 1) (by simp)).alloc _)
  have a0 : w2.cell? ⟨w.heap.size, 0, none⟩ = some (.int .u64 (ah : Int)) := A2.cell 0
  have a1 : w2.cell? ⟨w.heap.size, 1, none⟩ = some (.int .u64 (al : Int)) := A2.cell 1
  have a2 : w2.cell? ⟨w.heap.size, 2, none⟩ = some (.bool true) := A2.cell 2
  have b0 : w2.cell? ⟨w.heap.size + 1, 0, none⟩ = some (.int .u64 (bh : Int)) := B2.cell 0
  have b1 : w2.cell? ⟨w.heap.size + 1, 1, none⟩ = some (.int .u64 (bl : Int)) := B2.cell 1
  have b2 : w2.cell? ⟨w.heap.size + 1, 2, none⟩ = some (.bool false) := B2.cell 2
  have R2 := hn2.row (Row.new_at ((w.alloc (.cells (wideRow2 ah al true).toArray 161)).alloc (.cells (wideRow2 bh bl false).toArray 161)) 161 [.int .u64 0, .int .u64 0, .bool false] (g := w.heap.size + 1 + 1) (by simp))
  have r0 : w2.cell? ⟨w.heap.size + 1 + 1, 0, none⟩ = some (.int .u64 0) := R2.cell 0
  have r1 : w2.cell? ⟨w.heap.size + 1 + 1, 1, none⟩ = some (.int .u64 0) := R2.cell 1
  have r2 : w2.cell? ⟨w.heap.size + 1 + 1, 2, none⟩ = some (.bool false) := R2.cell 2
  have rf0 := R2.free 0
  have rf1 := R2.free 1
  have rf2 := R2.free 2
  have l5 := R2.lt
  have l4 : w.heap.size + 1 < w2.heap.size := by omega
  have l3 : w.heap.size < w2.heap.size := by omega
  have HN2 := Lib.hid hn2
  have pw : Calls Try.prog 163 #[.agg #[.int .u64 ah, .int .u64 al], .agg #[.int .u64 bh, .int .u64 bl]] w2.drew fun e w3 => ∃ h l : Nat, (h < 18446744073709551616 ∧ l < 18446744073709551616 ∧ two h l = two ah al - two bh bl) ∧ e = .returned (.agg #[.int .u64 h, .int .u64 l]) ∧
      w3.cell? ⟨w.heap.size, 2, none⟩ = some (.bool true) ∧ w3.cell? ⟨w.heap.size + 1 + 1, 0, none⟩ = some (.int .u64 0) ∧ w3.cell? ⟨w.heap.size + 1 + 1, 1, none⟩ = some (.int .u64 0) ∧ w3.cell? ⟨w.heap.size + 1 + 1, 2, none⟩ = some (.bool false) ∧
      w3.frozen? ⟨w.heap.size + 1 + 1, 0, none⟩ = false ∧ w3.frozen? ⟨w.heap.size + 1 + 1, 1, none⟩ = false ∧ w3.frozen? ⟨w.heap.size + 1 + 1, 2, none⟩ = false ∧ New w2.drew w3 :=
    (PL.out w2.drew).mono fun e w3 ⟨h, l, hh, he, _, _, _, hn⟩ => ⟨h, l, hh, he, (hn.row A2.drew).cell 2, (hn.row R2.drew).cell 0, (hn.row R2.drew).cell 1, (hn.row R2.drew).cell 2, (hn.row R2.drew).free 0, (hn.row R2.drew).free 1, (hn.row R2.drew).free 2, hn⟩
  have PW := Lib.hid pw
  clear CM A2 B2 R2 hc2 hf2 hz2 hn2 pw PL
  go_wp2_with fail
  go_cut [35] (fun c17 w2 => ∃ h l : Nat, IsW h l true (m + n) ∧ Row w2 (w.heap.size + 1 + 1) 161 (wideRow2 h l true) ∧ New w w2)
  case first =>
    go_region_law (go_simp; go_at_call 163; refine PW.out.mono ?_; rintro e w3 ⟨h, l, hh, rfl, x2, y0, y1, y2, z0, z1, z2, hn3⟩)
    all_goals
      go_wp2
      go_meet
      case rel => exact ⟨h, l, HW.out h l hh, ends5 HN2.out hn3 h l true⟩
  case rest =>
    clear a0 a1 a2 b0 b1 b2 r0 r1 r2 rf0 rf1 rf2 l5 l4 l3
    obtain ⟨h, l, hw, hr, hn⟩ := hcut
    have r0 : wc.cell? ⟨w.heap.size + 1 + 1, 0, none⟩ = some (.int .u64 (h : Int)) := hr.cell 0
    have r1 : wc.cell? ⟨w.heap.size + 1 + 1, 1, none⟩ = some (.int .u64 (l : Int)) := hr.cell 1
    have r2 : wc.cell? ⟨w.heap.size + 1 + 1, 2, none⟩ = some (.bool true) := hr.cell 2
    have HN := Lib.hid hn
    have HV := Lib.hid hw
    clear hr hn hw
    go_wp2_with fail
    exact bodyPost_ret (v := .agg #[.int .u64 (h : Int), .int .u64 (l : Int), .bool true]) (by simp [results, Try.results110, go_sem, r0, r1, r2]) rfl ⟨h, l, _, HV.out, rfl, HN.out⟩
set_option maxHeartbeats 1000000 in
theorem sum_lt_true (ah al bh bl : Nat) (m n : Int) (ha : IsW ah al true m) (hb : IsW bh bl false n) (hs : two ah al < two bh bl) (w : World) :
    Calls Try.prog 110 #[.agg #[.int .u64 ah, .int .u64 al, .bool true], .agg #[.int .u64 bh, .int .u64 bl, .bool false]] w (WRes (m + n) w) := by
  have pl := fun W => kept2_of (less_ex bh bl ah al hb.1 hb.2.1 ha.1 ha.2.1 (Nat.le_of_lt hs) W)
  have cm := fun W => kept_of (compare_lt ah al bh bl ha.2.1 hb.2.1 W hs)
  have PL := Lib.hid pl
  have CM := Lib.hid cm
  have hw : ∀ h l : Nat, h < 18446744073709551616 ∧ l < 18446744073709551616 ∧ two h l = two bh bl - two ah al → IsW h l false (m + n) := by
    rintro h l ⟨h1, h2, h3⟩
    obtain ⟨_, _, a3, a4⟩ := ha
    obtain ⟨_, _, b3, b4⟩ := hb
    have a5 : m < 0 := by simpa using a4
    have b5 : ¬ n < 0 := by simpa using b4
    refine ⟨h1, h2, by omega, ?_⟩
    exact (decide_eq_false (by omega)).symm
  have HW := Lib.hid hw
  clear pl cm ha hb hs hw
  go_enter Try.func110, Try.ntmps110
  go_wp2_with fail
  refine (CM.out _).mono ?_
  rintro e w2 ⟨rfl, hc2, hf2, hz2, hn2⟩
  have A2 : Row w2 w.heap.size 161 (wideRow2 ah al true) := hn2.row (((Row.new_at w 161 (wideRow2 ah al true) rfl).alloc _).alloc _)
  have B2 : Row w2 (w.heap.size + 1) 161 (wideRow2 bh bl false) := hn2.row ((Row.new_at (w.alloc (.cells (wideRow2 ah al true).toArray 161)) 161 (wideRow2 bh bl false) (g := w.heap.size + 1) (by simp)).alloc _)
  have a0 : w2.cell? ⟨w.heap.size, 0, none⟩ = some (.int .u64 (ah : Int)) := A2.cell 0
  have a1 : w2.cell? ⟨w.heap.size, 1, none⟩ = some (.int .u64 (al : Int)) := A2.cell 1
  have a2 : w2.cell? ⟨w.heap.size, 2, none⟩ = some (.bool true) := A2.cell 2
  have b0 : w2.cell? ⟨w.heap.size + 1, 0, none⟩ = some (.int .u64 (bh : Int)) := B2.cell 0
  have b1 : w2.cell? ⟨w.heap.size + 1, 1, none⟩ = some (.int .u64 (bl : Int)) := B2.cell 1
  have b2 : w2.cell? ⟨w.heap.size + 1, 2, none⟩ = some (.bool false) := B2.cell 2
  have R2 := hn2.row (Row.new_at ((w.alloc (.cells (wideRow2 ah al true).toArray 161)).alloc (.cells (wideRow2 bh bl false).toArray 161)) 161 [.int .u64 0, .int .u64 0, .bool false] (g := w.heap.size + 1 + 1) (by simp))
  have r0 : w2.cell? ⟨w.heap.size + 1 + 1, 0, none⟩ = some (.int .u64 0) := R2.cell 0
  have r1 : w2.cell? ⟨w.heap.size + 1 + 1, 1, none⟩ = some (.int .u64 0) := R2.cell 1
  have r2 : w2.cell? ⟨w.heap.size + 1 + 1, 2, none⟩ = some (.bool false) := R2.cell 2
  have rf0 := R2.free 0
  have rf1 := R2.free 1
  have rf2 := R2.free 2
  have l5 := R2.lt
  have l4 : w.heap.size + 1 < w2.heap.size := by omega
  have l3 : w.heap.size < w2.heap.size := by omega
  have HN2 := Lib.hid hn2
  have pw : Calls Try.prog 163 #[.agg #[.int .u64 bh, .int .u64 bl], .agg #[.int .u64 ah, .int .u64 al]] w2.drew fun e w3 => ∃ h l : Nat, (h < 18446744073709551616 ∧ l < 18446744073709551616 ∧ two h l = two bh bl - two ah al) ∧ e = .returned (.agg #[.int .u64 h, .int .u64 l]) ∧
      w3.cell? ⟨w.heap.size + 1, 2, none⟩ = some (.bool false) ∧ w3.cell? ⟨w.heap.size + 1 + 1, 0, none⟩ = some (.int .u64 0) ∧ w3.cell? ⟨w.heap.size + 1 + 1, 1, none⟩ = some (.int .u64 0) ∧ w3.cell? ⟨w.heap.size + 1 + 1, 2, none⟩ = some (.bool false) ∧
      w3.frozen? ⟨w.heap.size + 1 + 1, 0, none⟩ = false ∧ w3.frozen? ⟨w.heap.size + 1 + 1, 1, none⟩ = false ∧ w3.frozen? ⟨w.heap.size + 1 + 1, 2, none⟩ = false ∧ New w2.drew w3 :=
    (PL.out w2.drew).mono fun e w3 ⟨h, l, hh, he, _, _, _, hn⟩ => ⟨h, l, hh, he, (hn.row B2.drew).cell 2, (hn.row R2.drew).cell 0, (hn.row R2.drew).cell 1, (hn.row R2.drew).cell 2, (hn.row R2.drew).free 0, (hn.row R2.drew).free 1, (hn.row R2.drew).free 2, hn⟩
  have PW := Lib.hid pw
  clear CM A2 B2 R2 hc2 hf2 hz2 hn2 pw PL
  go_wp2_with fail
  go_cut [43] (fun c17 w2 => ∃ h l : Nat, IsW h l false (m + n) ∧ Row w2 (w.heap.size + 1 + 1) 161 (wideRow2 h l false) ∧ New w w2)
  case first =>
    go_region_law (go_simp; go_at_call 163; refine PW.out.mono ?_; rintro e w3 ⟨h, l, hh, rfl, x2, y0, y1, y2, z0, z1, z2, hn3⟩)
    all_goals
      go_wp2
      go_meet
      case rel => exact ⟨h, l, HW.out h l hh, ends5 HN2.out hn3 h l false⟩
  case rest =>
    clear a0 a1 a2 b0 b1 b2 r0 r1 r2 rf0 rf1 rf2 l5 l4 l3
    obtain ⟨h, l, hw, hr, hn⟩ := hcut
    have r0 : wc.cell? ⟨w.heap.size + 1 + 1, 0, none⟩ = some (.int .u64 (h : Int)) := hr.cell 0
    have r1 : wc.cell? ⟨w.heap.size + 1 + 1, 1, none⟩ = some (.int .u64 (l : Int)) := hr.cell 1
    have r2 : wc.cell? ⟨w.heap.size + 1 + 1, 2, none⟩ = some (.bool false) := hr.cell 2
    have HN := Lib.hid hn
    have HV := Lib.hid hw
    clear hr hn hw
    go_wp2_with fail
    exact bodyPost_ret (v := .agg #[.int .u64 (h : Int), .int .u64 (l : Int), .bool false]) (by simp [results, Try.results110, go_sem, r0, r1, r2]) rfl ⟨h, l, _, HV.out, rfl, HN.out⟩
set_option maxHeartbeats 1000000 in
theorem sum_eq_true (ah al bh bl : Nat) (m n : Int) (ha : IsW ah al true m) (hb : IsW bh bl false n) (hs : two ah al = two bh bl) (w : World) :
    Calls Try.prog 110 #[.agg #[.int .u64 ah, .int .u64 al, .bool true], .agg #[.int .u64 bh, .int .u64 bl, .bool false]] w (WRes (m + n) w) := by
  have cm := fun W => kept_of (compare_eq ah al bh bl ha.2.1 hb.2.1 W hs)
  have CM := Lib.hid cm
  have hw : IsW 0 0 false (m + n) := by
    obtain ⟨_, _, a3, a4⟩ := ha
    obtain ⟨_, _, b3, b4⟩ := hb
    have a5 : m < 0 := by simpa using a4
    have b5 : ¬ n < 0 := by simpa using b4
    refine ⟨by decide, by decide, ?_, ?_⟩
    · show (0 : Nat) = _; omega
    · exact (decide_eq_false (by omega)).symm
  have HW := Lib.hid hw
  clear cm ha hb hs hw
  go_enter Try.func110, Try.ntmps110
  go_wp2_with fail
  refine (CM.out _).mono ?_
  rintro e w2 ⟨rfl, hc2, hf2, hz2, hn2⟩
  clear CM
  have R2 := hn2.row (Row.new_at ((w.alloc (.cells (wideRow2 ah al true).toArray 161)).alloc (.cells (wideRow2 bh bl false).toArray 161)) 161 [.int .u64 0, .int .u64 0, .bool false] (g := w.heap.size + 1 + 1) (by simp))
  have N2 := Lib.hid (new_set3 (((((New.refl w).alloc _).alloc _).alloc _).trans hn2) (w.heap.size + 1 + 1) (by omega) 0 1 2 (.int .u64 0) (.int .u64 0) (.bool false))
  have R3 := Lib.hid (((R2.set 0 (.int .u64 0)).set 1 (.int .u64 0)).set 2 (.bool false))
  have r0 : w2.cell? ⟨w.heap.size + 1 + 1, 0, none⟩ = some (.int .u64 0) := R2.cell 0
  have r1 : w2.cell? ⟨w.heap.size + 1 + 1, 1, none⟩ = some (.int .u64 0) := R2.cell 1
  have r2 : w2.cell? ⟨w.heap.size + 1 + 1, 2, none⟩ = some (.bool false) := R2.cell 2
  have rf0 := R2.free 0
  have rf1 := R2.free 1
  have rf2 := R2.free 2
  have l5 := R2.lt
  clear hc2 hf2 hz2 hn2 R2
  go_wp2_with fail
  generalize ((w2.setCell ⟨w.heap.size + 1 + 1, 0, none⟩ (.int .u64 0)).setCell ⟨w.heap.size + 1 + 1, 1, none⟩ (.int .u64 0)).setCell ⟨w.heap.size + 1 + 1, 2, none⟩ (.bool false) = w3 at *
  have r0 : w3.cell? ⟨w.heap.size + 1 + 1, 0, none⟩ = some (.int .u64 0) := R3.out.cell 0
  have r1 : w3.cell? ⟨w.heap.size + 1 + 1, 1, none⟩ = some (.int .u64 0) := R3.out.cell 1
  have r2 : w3.cell? ⟨w.heap.size + 1 + 1, 2, none⟩ = some (.bool false) := R3.out.cell 2
  exact bodyPost_ret (v := .agg #[.int .u64 0, .int .u64 0, .bool false]) (by simp [results, Try.results110, go_sem, r0, r1, r2]) rfl ⟨0, 0, false, HW.out, rfl, N2.out⟩
set_option maxHeartbeats 1000000 in
theorem sum_gt_false (ah al bh bl : Nat) (m n : Int) (ha : IsW ah al false m) (hb : IsW bh bl true n) (hs : two bh bl < two ah al) (w : World) :
    Calls Try.prog 110 #[.agg #[.int .u64 ah, .int .u64 al, .bool false], .agg #[.int .u64 bh, .int .u64 bl, .bool true]] w (WRes (m + n) w) := by
  have pl := fun W => kept2_of (less_ex ah al bh bl ha.1 ha.2.1 hb.1 hb.2.1 (Nat.le_of_lt hs) W)
  have cm := fun W => kept_of (compare_gt ah al bh bl ha.2.1 hb.2.1 W hs)
  have PL := Lib.hid pl
  have CM := Lib.hid cm
  have hw : ∀ h l : Nat, h < 18446744073709551616 ∧ l < 18446744073709551616 ∧ two h l = two ah al - two bh bl → IsW h l false (m + n) := by
    rintro h l ⟨h1, h2, h3⟩
    obtain ⟨_, _, a3, a4⟩ := ha
    obtain ⟨_, _, b3, b4⟩ := hb
    have a5 : ¬ m < 0 := by simpa using a4
    have b5 : n < 0 := by simpa using b4
    refine ⟨h1, h2, by omega, ?_⟩
    exact (decide_eq_false (by omega)).symm
  have HW := Lib.hid hw
  clear pl cm ha hb hs hw
  go_enter Try.func110, Try.ntmps110
  go_wp2_with fail
  refine (CM.out _).mono ?_
  rintro e w2 ⟨rfl, hc2, hf2, hz2, hn2⟩
  have A2 : Row w2 w.heap.size 161 (wideRow2 ah al false) := hn2.row (((Row.new_at w 161 (wideRow2 ah al false) rfl).alloc _).alloc _)
  have B2 : Row w2 (w.heap.size + 1) 161 (wideRow2 bh bl true) := hn2.row ((Row.new_at (w.alloc (.cells (wideRow2 ah al false).toArray 161)) 161 (wideRow2 bh bl true) (g := w.heap.size + 1) (by simp)).alloc _)
  have a0 : w2.cell? ⟨w.heap.size, 0, none⟩ = some (.int .u64 (ah : Int)) := A2.cell 0
  have a1 : w2.cell? ⟨w.heap.size, 1, none⟩ = some (.int .u64 (al : Int)) := A2.cell 1
  have a2 : w2.cell? ⟨w.heap.size, 2, none⟩ = some (.bool false) := A2.cell 2
  have b0 : w2.cell? ⟨w.heap.size + 1, 0, none⟩ = some (.int .u64 (bh : Int)) := B2.cell 0
  have b1 : w2.cell? ⟨w.heap.size + 1, 1, none⟩ = some (.int .u64 (bl : Int)) := B2.cell 1
  have b2 : w2.cell? ⟨w.heap.size + 1, 2, none⟩ = some (.bool true) := B2.cell 2
  have R2 := hn2.row (Row.new_at ((w.alloc (.cells (wideRow2 ah al false).toArray 161)).alloc (.cells (wideRow2 bh bl true).toArray 161)) 161 [.int .u64 0, .int .u64 0, .bool false] (g := w.heap.size + 1 + 1) (by simp))
  have r0 : w2.cell? ⟨w.heap.size + 1 + 1, 0, none⟩ = some (.int .u64 0) := R2.cell 0
  have r1 : w2.cell? ⟨w.heap.size + 1 + 1, 1, none⟩ = some (.int .u64 0) := R2.cell 1
  have r2 : w2.cell? ⟨w.heap.size + 1 + 1, 2, none⟩ = some (.bool false) := R2.cell 2
  have rf0 := R2.free 0
  have rf1 := R2.free 1
  have rf2 := R2.free 2
  have l5 := R2.lt
  have l4 : w.heap.size + 1 < w2.heap.size := by omega
  have l3 : w.heap.size < w2.heap.size := by omega
  have HN2 := Lib.hid hn2
  have pw : Calls Try.prog 163 #[.agg #[.int .u64 ah, .int .u64 al], .agg #[.int .u64 bh, .int .u64 bl]] w2.drew fun e w3 => ∃ h l : Nat, (h < 18446744073709551616 ∧ l < 18446744073709551616 ∧ two h l = two ah al - two bh bl) ∧ e = .returned (.agg #[.int .u64 h, .int .u64 l]) ∧
      w3.cell? ⟨w.heap.size, 2, none⟩ = some (.bool false) ∧ w3.cell? ⟨w.heap.size + 1 + 1, 0, none⟩ = some (.int .u64 0) ∧ w3.cell? ⟨w.heap.size + 1 + 1, 1, none⟩ = some (.int .u64 0) ∧ w3.cell? ⟨w.heap.size + 1 + 1, 2, none⟩ = some (.bool false) ∧
      w3.frozen? ⟨w.heap.size + 1 + 1, 0, none⟩ = false ∧ w3.frozen? ⟨w.heap.size + 1 + 1, 1, none⟩ = false ∧ w3.frozen? ⟨w.heap.size + 1 + 1, 2, none⟩ = false ∧ New w2.drew w3 :=
    (PL.out w2.drew).mono fun e w3 ⟨h, l, hh, he, _, _, _, hn⟩ => ⟨h, l, hh, he, (hn.row A2.drew).cell 2, (hn.row R2.drew).cell 0, (hn.row R2.drew).cell 1, (hn.row R2.drew).cell 2, (hn.row R2.drew).free 0, (hn.row R2.drew).free 1, (hn.row R2.drew).free 2, hn⟩
  have PW := Lib.hid pw
  clear CM A2 B2 R2 hc2 hf2 hz2 hn2 pw PL
  go_wp2_with fail
  go_cut [35] (fun c17 w2 => ∃ h l : Nat, IsW h l false (m + n) ∧ Row w2 (w.heap.size + 1 + 1) 161 (wideRow2 h l false) ∧ New w w2)
  case first =>
    go_region_law (go_simp; go_at_call 163; refine PW.out.mono ?_; rintro e w3 ⟨h, l, hh, rfl, x2, y0, y1, y2, z0, z1, z2, hn3⟩)
    all_goals
      go_wp2
      go_meet
      case rel => exact ⟨h, l, HW.out h l hh, ends5 HN2.out hn3 h l false⟩
  case rest =>
    clear a0 a1 a2 b0 b1 b2 r0 r1 r2 rf0 rf1 rf2 l5 l4 l3
    obtain ⟨h, l, hw, hr, hn⟩ := hcut
    have r0 : wc.cell? ⟨w.heap.size + 1 + 1, 0, none⟩ = some (.int .u64 (h : Int)) := hr.cell 0
    have r1 : wc.cell? ⟨w.heap.size + 1 + 1, 1, none⟩ = some (.int .u64 (l : Int)) := hr.cell 1
    have r2 : wc.cell? ⟨w.heap.size + 1 + 1, 2, none⟩ = some (.bool false) := hr.cell 2
    have HN := Lib.hid hn
    have HV := Lib.hid hw
    clear hr hn hw
    go_wp2_with fail
    exact bodyPost_ret (v := .agg #[.int .u64 (h : Int), .int .u64 (l : Int), .bool false]) (by simp [results, Try.results110, go_sem, r0, r1, r2]) rfl ⟨h, l, _, HV.out, rfl, HN.out⟩
set_option maxHeartbeats 1000000 in
theorem sum_lt_false (ah al bh bl : Nat) (m n : Int) (ha : IsW ah al false m) (hb : IsW bh bl true n) (hs : two ah al < two bh bl) (w : World) :
    Calls Try.prog 110 #[.agg #[.int .u64 ah, .int .u64 al, .bool false], .agg #[.int .u64 bh, .int .u64 bl, .bool true]] w (WRes (m + n) w) := by
  have pl := fun W => kept2_of (less_ex bh bl ah al hb.1 hb.2.1 ha.1 ha.2.1 (Nat.le_of_lt hs) W)
  have cm := fun W => kept_of (compare_lt ah al bh bl ha.2.1 hb.2.1 W hs)
  have PL := Lib.hid pl
  have CM := Lib.hid cm
  have hw : ∀ h l : Nat, h < 18446744073709551616 ∧ l < 18446744073709551616 ∧ two h l = two bh bl - two ah al → IsW h l true (m + n) := by
    rintro h l ⟨h1, h2, h3⟩
    obtain ⟨_, _, a3, a4⟩ := ha
    obtain ⟨_, _, b3, b4⟩ := hb
    have a5 : ¬ m < 0 := by simpa using a4
    have b5 : n < 0 := by simpa using b4
    refine ⟨h1, h2, by omega, ?_⟩
    exact (decide_eq_true (by omega)).symm
  have HW := Lib.hid hw
  clear pl cm ha hb hs hw
  go_enter Try.func110, Try.ntmps110
  go_wp2_with fail
  refine (CM.out _).mono ?_
  rintro e w2 ⟨rfl, hc2, hf2, hz2, hn2⟩
  have A2 : Row w2 w.heap.size 161 (wideRow2 ah al false) := hn2.row (((Row.new_at w 161 (wideRow2 ah al false) rfl).alloc _).alloc _)
  have B2 : Row w2 (w.heap.size + 1) 161 (wideRow2 bh bl true) := hn2.row ((Row.new_at (w.alloc (.cells (wideRow2 ah al false).toArray 161)) 161 (wideRow2 bh bl true) (g := w.heap.size + 1) (by simp)).alloc _)
  have a0 : w2.cell? ⟨w.heap.size, 0, none⟩ = some (.int .u64 (ah : Int)) := A2.cell 0
  have a1 : w2.cell? ⟨w.heap.size, 1, none⟩ = some (.int .u64 (al : Int)) := A2.cell 1
  have a2 : w2.cell? ⟨w.heap.size, 2, none⟩ = some (.bool false) := A2.cell 2
  have b0 : w2.cell? ⟨w.heap.size + 1, 0, none⟩ = some (.int .u64 (bh : Int)) := B2.cell 0
  have b1 : w2.cell? ⟨w.heap.size + 1, 1, none⟩ = some (.int .u64 (bl : Int)) := B2.cell 1
  have b2 : w2.cell? ⟨w.heap.size + 1, 2, none⟩ = some (.bool true) := B2.cell 2
  have R2 := hn2.row (Row.new_at ((w.alloc (.cells (wideRow2 ah al false).toArray 161)).alloc (.cells (wideRow2 bh bl true).toArray 161)) 161 [.int .u64 0, .int .u64 0, .bool false] (g := w.heap.size + 1 + 1) (by simp))
  have r0 : w2.cell? ⟨w.heap.size + 1 + 1, 0, none⟩ = some (.int .u64 0) := R2.cell 0
  have r1 : w2.cell? ⟨w.heap.size + 1 + 1, 1, none⟩ = some (.int .u64 0) := R2.cell 1
  have r2 : w2.cell? ⟨w.heap.size + 1 + 1, 2, none⟩ = some (.bool false) := R2.cell 2
  have rf0 := R2.free 0
  have rf1 := R2.free 1
  have rf2 := R2.free 2
  have l5 := R2.lt
  have l4 : w.heap.size + 1 < w2.heap.size := by omega
  have l3 : w.heap.size < w2.heap.size := by omega
  have HN2 := Lib.hid hn2
  have pw : Calls Try.prog 163 #[.agg #[.int .u64 bh, .int .u64 bl], .agg #[.int .u64 ah, .int .u64 al]] w2.drew fun e w3 => ∃ h l : Nat, (h < 18446744073709551616 ∧ l < 18446744073709551616 ∧ two h l = two bh bl - two ah al) ∧ e = .returned (.agg #[.int .u64 h, .int .u64 l]) ∧
      w3.cell? ⟨w.heap.size + 1, 2, none⟩ = some (.bool true) ∧ w3.cell? ⟨w.heap.size + 1 + 1, 0, none⟩ = some (.int .u64 0) ∧ w3.cell? ⟨w.heap.size + 1 + 1, 1, none⟩ = some (.int .u64 0) ∧ w3.cell? ⟨w.heap.size + 1 + 1, 2, none⟩ = some (.bool false) ∧
      w3.frozen? ⟨w.heap.size + 1 + 1, 0, none⟩ = false ∧ w3.frozen? ⟨w.heap.size + 1 + 1, 1, none⟩ = false ∧ w3.frozen? ⟨w.heap.size + 1 + 1, 2, none⟩ = false ∧ New w2.drew w3 :=
    (PL.out w2.drew).mono fun e w3 ⟨h, l, hh, he, _, _, _, hn⟩ => ⟨h, l, hh, he, (hn.row B2.drew).cell 2, (hn.row R2.drew).cell 0, (hn.row R2.drew).cell 1, (hn.row R2.drew).cell 2, (hn.row R2.drew).free 0, (hn.row R2.drew).free 1, (hn.row R2.drew).free 2, hn⟩
  have PW := Lib.hid pw
  clear CM A2 B2 R2 hc2 hf2 hz2 hn2 pw PL
  go_wp2_with fail
  go_cut [43] (fun c17 w2 => ∃ h l : Nat, IsW h l true (m + n) ∧ Row w2 (w.heap.size + 1 + 1) 161 (wideRow2 h l true) ∧ New w w2)
  case first =>
    go_region_law (go_simp; go_at_call 163; refine PW.out.mono ?_; rintro e w3 ⟨h, l, hh, rfl, x2, y0, y1, y2, z0, z1, z2, hn3⟩)
    all_goals
      go_wp2
      go_meet
      case rel => exact ⟨h, l, HW.out h l hh, ends5 HN2.out hn3 h l true⟩
  case rest =>
    clear a0 a1 a2 b0 b1 b2 r0 r1 r2 rf0 rf1 rf2 l5 l4 l3
    obtain ⟨h, l, hw, hr, hn⟩ := hcut
    have r0 : wc.cell? ⟨w.heap.size + 1 + 1, 0, none⟩ = some (.int .u64 (h : Int)) := hr.cell 0
    have r1 : wc.cell? ⟨w.heap.size + 1 + 1, 1, none⟩ = some (.int .u64 (l : Int)) := hr.cell 1
    have r2 : wc.cell? ⟨w.heap.size + 1 + 1, 2, none⟩ = some (.bool true) := hr.cell 2
    have HN := Lib.hid hn
    have HV := Lib.hid hw
    clear hr hn hw
    go_wp2_with fail
    exact bodyPost_ret (v := .agg #[.int .u64 (h : Int), .int .u64 (l : Int), .bool true]) (by simp [results, Try.results110, go_sem, r0, r1, r2]) rfl ⟨h, l, _, HV.out, rfl, HN.out⟩
set_option maxHeartbeats 1000000 in
theorem sum_eq_false (ah al bh bl : Nat) (m n : Int) (ha : IsW ah al false m) (hb : IsW bh bl true n) (hs : two ah al = two bh bl) (w : World) :
    Calls Try.prog 110 #[.agg #[.int .u64 ah, .int .u64 al, .bool false], .agg #[.int .u64 bh, .int .u64 bl, .bool true]] w (WRes (m + n) w) := by
  have cm := fun W => kept_of (compare_eq ah al bh bl ha.2.1 hb.2.1 W hs)
  have CM := Lib.hid cm
  have hw : IsW 0 0 false (m + n) := by
    obtain ⟨_, _, a3, a4⟩ := ha
    obtain ⟨_, _, b3, b4⟩ := hb
    have a5 : ¬ m < 0 := by simpa using a4
    have b5 : n < 0 := by simpa using b4
    refine ⟨by decide, by decide, ?_, ?_⟩
    · show (0 : Nat) = _; omega
    · exact (decide_eq_false (by omega)).symm
  have HW := Lib.hid hw
  clear cm ha hb hs hw
  go_enter Try.func110, Try.ntmps110
  go_wp2_with fail
  refine (CM.out _).mono ?_
  rintro e w2 ⟨rfl, hc2, hf2, hz2, hn2⟩
  clear CM
  have R2 := hn2.row (Row.new_at ((w.alloc (.cells (wideRow2 ah al false).toArray 161)).alloc (.cells (wideRow2 bh bl true).toArray 161)) 161 [.int .u64 0, .int .u64 0, .bool false] (g := w.heap.size + 1 + 1) (by simp))
  have N2 := Lib.hid (new_set3 (((((New.refl w).alloc _).alloc _).alloc _).trans hn2) (w.heap.size + 1 + 1) (by omega) 0 1 2 (.int .u64 0) (.int .u64 0) (.bool false))
  have R3 := Lib.hid (((R2.set 0 (.int .u64 0)).set 1 (.int .u64 0)).set 2 (.bool false))
  have r0 : w2.cell? ⟨w.heap.size + 1 + 1, 0, none⟩ = some (.int .u64 0) := R2.cell 0
  have r1 : w2.cell? ⟨w.heap.size + 1 + 1, 1, none⟩ = some (.int .u64 0) := R2.cell 1
  have r2 : w2.cell? ⟨w.heap.size + 1 + 1, 2, none⟩ = some (.bool false) := R2.cell 2
  have rf0 := R2.free 0
  have rf1 := R2.free 1
  have rf2 := R2.free 2
  have l5 := R2.lt
  clear hc2 hf2 hz2 hn2 R2
  go_wp2_with fail
  generalize ((w2.setCell ⟨w.heap.size + 1 + 1, 0, none⟩ (.int .u64 0)).setCell ⟨w.heap.size + 1 + 1, 1, none⟩ (.int .u64 0)).setCell ⟨w.heap.size + 1 + 1, 2, none⟩ (.bool false) = w3 at *
  have r0 : w3.cell? ⟨w.heap.size + 1 + 1, 0, none⟩ = some (.int .u64 0) := R3.out.cell 0
  have r1 : w3.cell? ⟨w.heap.size + 1 + 1, 1, none⟩ = some (.int .u64 0) := R3.out.cell 1
  have r2 : w3.cell? ⟨w.heap.size + 1 + 1, 2, none⟩ = some (.bool false) := R3.out.cell 2
  exact bodyPost_ret (v := .agg #[.int .u64 0, .int .u64 0, .bool false]) (by simp [results, Try.results110, go_sem, r0, r1, r2]) rfl ⟨0, 0, false, HW.out, rfl, N2.out⟩
theorem wsum_any (ah al bh bl : Nat) (s t : Bool) (m n : Int) (ha : IsW ah al s m) (hb : IsW bh bl t n) (hs : two ah al + two bh bl < 340282366920938463463374607431768211456) (w : World) :
    Calls Try.prog 110 #[.agg #[.int .u64 ah, .int .u64 al, .bool s], .agg #[.int .u64 bh, .int .u64 bl, .bool t]] w (WRes (m + n) w) := by
  cases s <;> cases t
  · exact sum_one ah al bh bl false m n ha hb hs w
  · rcases Nat.lt_trichotomy (two ah al) (two bh bl) with h | h | h
    · exact sum_lt_false ah al bh bl m n ha hb h w
    · exact sum_eq_false ah al bh bl m n ha hb h w
    · exact sum_gt_false ah al bh bl m n ha hb h w
  · rcases Nat.lt_trichotomy (two ah al) (two bh bl) with h | h | h
    · exact sum_lt_true ah al bh bl m n ha hb h w
    · exact sum_eq_true ah al bh bl m n ha hb h w
    · exact sum_gt_true ah al bh bl m n ha hb h w
  · exact sum_one ah al bh bl true m n ha hb hs w
end Go.Proofs.Ytapfihlgemejiaa
