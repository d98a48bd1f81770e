/- rat.common: the greatest divisor of two. -/
import Derived.Test.YtapfihlgemejiaaN3
namespace Go.Proofs.Ytapfihlgemejiaa
open Go.RowKit

def natOf : Option Value → Nat
  | some (.int _ i) => i.toNat
  | _ => 0
theorem two_zero {h l : Nat} (hz : two h l = 0) : h = 0 ∧ l = 0 := by unfold two at hz; omega
theorem isZero_yes (w : World) : Calls Try.prog 112 #[.agg #[.int .u64 0, .int .u64 0]] w fun e w' => e = .returned (.bool true) ∧ New w w' := isZero_any 0 0 w
theorem isZero_no (h l : Nat) (hz : two h l ≠ 0) (w : World) : Calls Try.prog 112 #[.agg #[.int .u64 h, .int .u64 l]] w fun e w' => e = .returned (.bool false) ∧ New w w' := by
  have := isZero_any h l w
  rwa [show zeroB (two h l) = false from decide_eq_false hz] at this
set_option maxRecDepth 100000 in
set_option maxHeartbeats 4000000 in
theorem common_any (ah al bh bl : Nat) (h1 : ah < 18446744073709551616) (h2 : al < 18446744073709551616) (h3 : bh < 18446744073709551616) (h4 : bl < 18446744073709551616)
    (hT2 : two bh bl ≤ 170141183460469231731687303715884105728) (w : World) :
    Calls Try.prog 164 #[.agg #[.int .u64 ah, .int .u64 al], .agg #[.int .u64 bh, .int .u64 bl]] w fun e w' =>
      ∃ gh gl : Nat, gh < 18446744073709551616 ∧ gl < 18446744073709551616 ∧ two gh gl = Nat.gcd (two ah al) (two bh bl) ∧
      e = .returned (.agg #[.int .u64 gh, .int .u64 gl]) ∧ New w w' := by
  go_enter Try.func164, Try.ntmps164
  go_wp2_with fail
  go_loopw [5] (fun _ wr => ∃ xh xl yh yl : Nat, xh < 18446744073709551616 ∧ xl < 18446744073709551616 ∧ yh < 18446744073709551616 ∧ yl < 18446744073709551616 ∧
      Nat.gcd (two xh xl) (two yh yl) = Nat.gcd (two ah al) (two bh bl) ∧ two yh yl ≤ 170141183460469231731687303715884105728 ∧
      Row wr w.heap.size 159 (words xh xl) ∧ Row wr (w.heap.size + 1) 159 (words yh yl) ∧ Row wr (w.heap.size + 1 + 1) 159 (words 0 0) ∧ New w wr)
    (fun _ wr => two (natOf (wr.cell? ⟨w.heap.size + 1, 0, none⟩)) (natOf (wr.cell? ⟨w.heap.size + 1, 1, none⟩)))
  case atStart =>
    refine ⟨ah, al, bh, bl, h1, h2, h3, h4, rfl, hT2, ?_, ?_, ?_, ?_⟩
    · exact ((Row.new_at w 159 (words ah al) rfl).alloc _).alloc _
    · exact (Row.new_at _ 159 (words bh bl) (by simp)).alloc _
    · exact Row.new_at _ 159 (words 0 0) (by simp)
    · exact (((New.refl w).alloc _).alloc _).alloc _
  case round =>
    obtain ⟨xh, xl, yh, yl, hxh, hxl, hyh, hyl, hg, hy2, hx, hy, hr, hn⟩ := hrel
    have x0 : wr.cell? ⟨w.heap.size, 0, none⟩ = some (.int .u64 (xh : Int)) := hx.cell 0
    have x1 : wr.cell? ⟨w.heap.size, 1, none⟩ = some (.int .u64 (xl : Int)) := hx.cell 1
    have y0 : wr.cell? ⟨w.heap.size + 1, 0, none⟩ = some (.int .u64 (yh : Int)) := hy.cell 0
    have y1 : wr.cell? ⟨w.heap.size + 1, 1, none⟩ = some (.int .u64 (yl : Int)) := hy.cell 1
    have HY0 := Lib.hid (And.intro y0 y1)
    by_cases hz : two yh yl = 0
    · obtain ⟨rfl, rfl⟩ := two_zero hz
      have iz := isZero_yes wr
      have IZ := Lib.hid iz
      have hg' : two xh xl = Nat.gcd (two ah al) (two bh bl) := by rw [← hg]; exact (Nat.gcd_zero_right _).symm
      have HG := Lib.hid hg'
      clear iz hg hg' hy2 hT2 hz HY0
      have l5 := hr.lt
      go_wp2_with fail
      refine IZ.out.mono ?_
      rintro e w2 ⟨rfl, hn2⟩
      have X2 := hn2.row hx
      have R2 := hn2.row hr
      have N2 := Lib.hid (new_set (new_set (hn.trans hn2) (w.heap.size + 1 + 1) (by omega) 0 (.int .u64 (xh : Int))) (w.heap.size + 1 + 1) (by omega) 1 (.int .u64 (xl : Int)))
      have R3 := Lib.hid ((R2.set 0 (.int .u64 (xh : Int))).set 1 (.int .u64 (xl : Int)))
      clear x0 x1 y0 y1 hx hy hr hn hn2 IZ
      have x0 : w2.cell? ⟨w.heap.size, 0, none⟩ = some (.int .u64 (xh : Int)) := X2.cell 0
      have x1 : w2.cell? ⟨w.heap.size, 1, none⟩ = some (.int .u64 (xl : Int)) := X2.cell 1
      have r0 : w2.cell? ⟨w.heap.size + 1 + 1, 0, none⟩ = some (.int .u64 0) := R2.cell 0
      have r1 : w2.cell? ⟨w.heap.size + 1 + 1, 1, none⟩ = some (.int .u64 0) := R2.cell 1
      have rf0 := R2.free 0
      have rf1 := R2.free 1
      have l5 := R2.lt
      clear X2 R2
      go_wp2_with fail
      generalize ((w2.setCell ⟨w.heap.size + 1 + 1, 0, none⟩ (.int .u64 (xh : Int))).setCell ⟨w.heap.size + 1 + 1, 1, none⟩ (.int .u64 (xl : Int))) = w3 at *
      have r0 : w3.cell? ⟨w.heap.size + 1 + 1, 0, none⟩ = some (.int .u64 (xh : Int)) := R3.out.cell 0
      have r1 : w3.cell? ⟨w.heap.size + 1 + 1, 1, none⟩ = some (.int .u64 (xl : Int)) := R3.out.cell 1
      exact bodyPost_ret (v := .agg #[.int .u64 (xh : Int), .int .u64 (xl : Int)]) (by simp [results, Try.results164, go_sem, r0, r1]) rfl
        ⟨xh, xl, hxh, hxl, HG.out, rfl, N2.out⟩
    · have iz := isZero_no yh yl hz wr
      have IZ := Lib.hid iz
      have HB := Lib.hid (And.intro hg hy2)
      have l5 := hr.lt
      clear iz hg hy2 hT2
      go_wp2_with fail
      refine IZ.out.mono ?_
      rintro e w2 ⟨rfl, hn2⟩
      have X2 := Lib.hid (hn2.row hx)
      have Y2 := Lib.hid (hn2.row hy)
      have R2 := Lib.hid (hn2.row hr)
      have N2 := Lib.hid (hn.trans hn2)
      clear x0 x1 y0 y1 l5 hx hy hr hn hn2 IZ
      have x0 : w2.cell? ⟨w.heap.size, 0, none⟩ = some (.int .u64 (xh : Int)) := X2.out.cell 0
      have x1 : w2.cell? ⟨w.heap.size, 1, none⟩ = some (.int .u64 (xl : Int)) := X2.out.cell 1
      have y0 : w2.cell? ⟨w.heap.size + 1, 0, none⟩ = some (.int .u64 (yh : Int)) := Y2.out.cell 0
      have y1 : w2.cell? ⟨w.heap.size + 1, 1, none⟩ = some (.int .u64 (yl : Int)) := Y2.out.cell 1
      have ov := over_any xh xl yh yl hxh hxl hyh hyl (by omega) HB.out.2 w2
      have OV := Lib.hid ov
      clear ov
      go_wp2_with fail
      refine OV.out.mono ?_
      rintro e w3 ⟨qh, ql, rh, rl, hqh, hql, hrh, hrl, _, hrv, rfl, hn3⟩
      have X3 := Lib.hid (hn3.row X2.out)
      have Y3 := Lib.hid (hn3.row Y2.out)
      have R3 := Lib.hid (hn3.row R2.out)
      have N3 := Lib.hid (N2.out.trans hn3)
      have HRV := Lib.hid hrv
      clear OV X2 Y2 R2 N2 hn3 hrv x0 x1 y0 y1
      go_wp2_with fail
      have X4 := Lib.hid ((X3.out.alloc (Obj.cells #[Value.int IntKind.u64 ↑qh, Value.int IntKind.u64 ↑ql] 159)).alloc (Obj.cells #[Value.int IntKind.u64 ↑rh, Value.int IntKind.u64 ↑rl] 159))
      have Y4 := Lib.hid ((Y3.out.alloc (Obj.cells #[Value.int IntKind.u64 ↑qh, Value.int IntKind.u64 ↑ql] 159)).alloc (Obj.cells #[Value.int IntKind.u64 ↑rh, Value.int IntKind.u64 ↑rl] 159))
      have R4 := Lib.hid ((R3.out.alloc (Obj.cells #[Value.int IntKind.u64 ↑qh, Value.int IntKind.u64 ↑ql] 159)).alloc (Obj.cells #[Value.int IntKind.u64 ↑rh, Value.int IntKind.u64 ↑rl] 159))
      have N4 := Lib.hid ((N3.out.alloc (Obj.cells #[Value.int IntKind.u64 ↑qh, Value.int IntKind.u64 ↑ql] 159)).alloc (Obj.cells #[Value.int IntKind.u64 ↑rh, Value.int IntKind.u64 ↑rl] 159))
      have m4 : Row ((w3.alloc (Obj.cells #[Value.int IntKind.u64 ↑qh, Value.int IntKind.u64 ↑ql] 159)).alloc (Obj.cells #[Value.int IntKind.u64 ↑rh, Value.int IntKind.u64 ↑rl] 159)) (w3.heap.size + 1) 159 (words rh rl) := Row.new_at (w3.alloc (Obj.cells #[Value.int IntKind.u64 ↑qh, Value.int IntKind.u64 ↑ql] 159)) 159 (words rh rl) (g := w3.heap.size + 1) (by simp)
      have M4 := Lib.hid m4
      have l5 := R3.out.lt
      have l6 := m4.lt
      clear X3 Y3 R3 N3 m4
      generalize (w3.alloc (Obj.cells #[Value.int IntKind.u64 ↑qh, Value.int IntKind.u64 ↑ql] 159)).alloc (Obj.cells #[Value.int IntKind.u64 ↑rh, Value.int IntKind.u64 ↑rl] 159) = w4 at *
      generalize w3.heap.size = z at *
      have x0 : w4.cell? ⟨w.heap.size, 0, none⟩ = some (.int .u64 (xh : Int)) := X4.out.cell 0
      have x1 : w4.cell? ⟨w.heap.size, 1, none⟩ = some (.int .u64 (xl : Int)) := X4.out.cell 1
      have y0 : w4.cell? ⟨w.heap.size + 1, 0, none⟩ = some (.int .u64 (yh : Int)) := Y4.out.cell 0
      have y1 : w4.cell? ⟨w.heap.size + 1, 1, none⟩ = some (.int .u64 (yl : Int)) := Y4.out.cell 1
      have m0 : w4.cell? ⟨z + 1, 0, none⟩ = some (.int .u64 (rh : Int)) := M4.out.cell 0
      have m1 : w4.cell? ⟨z + 1, 1, none⟩ = some (.int .u64 (rl : Int)) := M4.out.cell 1
      have xf0 := X4.out.free 0
      have xf1 := X4.out.free 1
      have yf0 := Y4.out.free 0
      have yf1 := Y4.out.free 1
      have X5 := Lib.hid ((((X4.out.set 0 (.int .u64 (yh : Int))).set 1 (.int .u64 (yl : Int))).far2 (w.heap.size + 1) (by omega) 0 1 (.int .u64 (rh : Int)) (.int .u64 (rl : Int))).drew)
      have Y5 := Lib.hid ((((Y4.out.far2 w.heap.size (by omega) 0 1 (.int .u64 (yh : Int)) (.int .u64 (yl : Int))).set 0 (.int .u64 (rh : Int))).set 1 (.int .u64 (rl : Int))).drew)
      have R5 := Lib.hid (((R4.out.far2 w.heap.size (by omega) 0 1 (.int .u64 (yh : Int)) (.int .u64 (yl : Int))).far2 (w.heap.size + 1) (by omega) 0 1 (.int .u64 (rh : Int)) (.int .u64 (rl : Int))).drew)
      have N5 := Lib.hid ((new_set (new_set (new_set (new_set N4.out w.heap.size (by omega) 0 (.int .u64 (yh : Int))) w.heap.size (by omega) 1 (.int .u64 (yl : Int))) (w.heap.size + 1) (by omega) 0 (.int .u64 (rh : Int))) (w.heap.size + 1) (by omega) 1 (.int .u64 (rl : Int))).drew)
      clear X4 Y4 R4 N4
      go_region
      clear x0 x1 y0 y1 m0 m1 xf0 xf1 yf0 yf1 l6 l5
      generalize ((((w4.setCell ⟨w.heap.size, 0, none⟩ (.int .u64 (yh : Int))).setCell ⟨w.heap.size, 1, none⟩ (.int .u64 (yl : Int))).setCell ⟨w.heap.size + 1, 0, none⟩ (.int .u64 (rh : Int))).setCell ⟨w.heap.size + 1, 1, none⟩ (.int .u64 (rl : Int))).drew = w5 at *
      go_wp2_with fail
      have hm : two rh rl < two yh yl := by rw [HRV.out]; exact Nat.mod_lt _ (by omega)
      have hle := HB.out.2
      refine ⟨⟨yh, yl, rh, rl, hyh, hyl, hrh, hrl, ?_, by omega, X5.out, Y5.out, R5.out, N5.out⟩, ?_⟩
      · rw [HRV.out, gcd_step]; exact HB.out.1
      · rw [show w5.cell? ⟨w.heap.size + 1, 0, none⟩ = some (.int .u64 (rh : Int)) from Y5.out.cell 0, show w5.cell? ⟨w.heap.size + 1, 1, none⟩ = some (.int .u64 (rl : Int)) from Y5.out.cell 1, HY0.out.1, HY0.out.2]
        exact hm
end Go.Proofs.Ytapfihlgemejiaa
