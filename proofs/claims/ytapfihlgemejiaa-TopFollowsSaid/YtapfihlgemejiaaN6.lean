/- rat.wide: opposite, number, sum. -/
import Derived.Test.YtapfihlgemejiaaN5
namespace Go.Proofs.Ytapfihlgemejiaa
open Go.RowKit

theorem IsW.neg {h l : Nat} {s : Bool} {n : Int} (hw : IsW h l s n) : IsW h l (!s && !zeroB (two h l)) (-n) := by
  obtain ⟨h1, h2, h3, h4⟩ := hw
  refine ⟨h1, h2, by rw [h3]; omega, ?_⟩
  unfold zeroB
  rw [h3, h4, Bool.eq_iff_iff]
  simp
  omega
theorem New.cells {a b : World} (h : New a b) (g o : Nat) (hg : g < a.heap.size) : b.cell? ⟨g, o, none⟩ = a.cell? ⟨g, o, none⟩ :=
  (h.below (B := a.heap.size) (Nat.le_refl _)).cell (p := ⟨g, o, none⟩) hg
theorem New.marks {a b : World} (h : New a b) (g o : Nat) (hg : g < a.heap.size) : b.frozen? ⟨g, o, none⟩ = a.frozen? ⟨g, o, none⟩ :=
  (h.below (B := a.heap.size) (Nat.le_refl _)).frozen (p := ⟨g, o, none⟩) hg
/-- A call that turns nothing old, with what the walk reads behind it. -/
theorem kept_of {f : FuncId} {args : Array Value} {W : World} {E : Ending} (hc : Calls Try.prog f args W fun e w' => e = E ∧ New W w') :
    Calls Try.prog f args W fun e w' => e = E ∧ (∀ g o, g < W.heap.size → w'.cell? ⟨g, o, none⟩ = W.cell? ⟨g, o, none⟩) ∧ (∀ g o, g < W.heap.size → w'.frozen? ⟨g, o, none⟩ = W.frozen? ⟨g, o, none⟩) ∧
      W.heap.size ≤ w'.heap.size ∧ New W w' := hc.mono fun _ _ ⟨he, hn⟩ => ⟨he, hn.cells, hn.marks, hn.size, hn⟩
theorem ends3 {w w2 : World} {x : Obj} (hn : New ((w.alloc x).alloc (.cells #[.int .u64 0, .int .u64 0, .bool false] 161)).drew w2) (h l : Nat) (s : Bool) :
    Row (((w2.setCell ⟨w.heap.size + 1, 0, none⟩ (.int .u64 (h : Int))).setCell ⟨w.heap.size + 1, 1, none⟩ (.int .u64 (l : Int))).setCell ⟨w.heap.size + 1, 2, none⟩ (.bool s)) (w.heap.size + 1) 161 (wideRow2 h l s) ∧
    New w (((w2.setCell ⟨w.heap.size + 1, 0, none⟩ (.int .u64 (h : Int))).setCell ⟨w.heap.size + 1, 1, none⟩ (.int .u64 (l : Int))).setCell ⟨w.heap.size + 1, 2, none⟩ (.bool s)) := by
  have r3 : Row w2 (w.heap.size + 1) 161 [.int .u64 0, .int .u64 0, .bool false] := hn.row ((Row.new_at (w.alloc x) 161 [.int .u64 0, .int .u64 0, .bool false] (by simp)).drew)
  have n3 : New w w2 := (((New.refl w).alloc x).alloc _).drew.trans hn
  exact ⟨((r3.set 0 (.int .u64 (h : Int))).set 1 (.int .u64 (l : Int))).set 2 (.bool s), new_set3 n3 (w.heap.size + 1) (Nat.le_succ _) 0 1 2 (.int .u64 (h : Int)) (.int .u64 (l : Int)) (.bool s)⟩
set_option maxHeartbeats 1000000 in
theorem opposite_any (h l : Nat) (s : Bool) (n : Int) (hw : IsW h l s n) (w : World) : Calls Try.prog 111 #[.agg #[.int .u64 h, .int .u64 l, .bool s]] w (WRes (-n) w) := by
  have hw := hw.neg
  have iz := fun W => isZero_any h l W
  generalize zeroB (two h l) = zz at *
  have IZ := Lib.hid iz
  have HW := Lib.hid hw
  clear iz
  cases s
  · have hv : IsW h l (!zz) (-n) := by have := HW.out; simpa using this
    have HV := Lib.hid hv
    clear hv hw
    go_enter Try.func111, Try.ntmps111
    go_wp2_with fail
    go_cut [14] (fun c14 w2 => Row w2 (w.heap.size + 1) 161 (wideRow2 h l (!zz)) ∧ New w w2)
    case first =>
      go_region_law (go_simp; go_at_call 112; refine (kept_of (IZ.out _)).mono ?_; rintro e w2 ⟨rfl, hc, hf, hz, hn2⟩)
      all_goals
        go_wp2
        go_meet
        case rel => exact ends3 hn2 h l (!zz)
    case rest =>
      obtain ⟨hr, hn⟩ := hcut
      have r0 : wc.cell? ⟨w.heap.size + 1, 0, none⟩ = some (.int .u64 (h : Int)) := hr.cell 0
      have r1 : wc.cell? ⟨w.heap.size + 1, 1, none⟩ = some (.int .u64 (l : Int)) := hr.cell 1
      have r2 : wc.cell? ⟨w.heap.size + 1, 2, none⟩ = some (.bool (!zz)) := hr.cell 2
      have HN := Lib.hid hn
      clear hr hn
      go_wp2_with fail
      exact bodyPost_ret (v := .agg #[.int .u64 (h : Int), .int .u64 (l : Int), .bool (!zz)]) (by simp [results, Try.results111, go_sem, r0, r1, r2]) rfl ⟨h, l, _, HV.out, rfl, HN.out⟩
  · have hv : IsW h l false (-n) := by have := HW.out; simpa using this
    have HV := Lib.hid hv
    clear hv hw
    go_enter Try.func111, Try.ntmps111
    go_wp2_with fail
    go_cut [14] (fun c14 w2 => Row w2 (w.heap.size + 1) 161 (wideRow2 h l false) ∧ New w w2)
    case first =>
      go_region
      all_goals
        go_wp2
        go_meet
        case rel => exact ⟨(Row.new_at _ 161 (wideRow2 h l false) (by simp)).drew, (((New.refl w).alloc _).alloc _).drew⟩
    case rest =>
      obtain ⟨hr, hn⟩ := hcut
      have r0 : wc.cell? ⟨w.heap.size + 1, 0, none⟩ = some (.int .u64 (h : Int)) := hr.cell 0
      have r1 : wc.cell? ⟨w.heap.size + 1, 1, none⟩ = some (.int .u64 (l : Int)) := hr.cell 1
      have r2 : wc.cell? ⟨w.heap.size + 1, 2, none⟩ = some (.bool (false)) := hr.cell 2
      have HN := Lib.hid hn
      clear hr hn
      go_wp2_with fail
      exact bodyPost_ret (v := .agg #[.int .u64 (h : Int), .int .u64 (l : Int), .bool (false)]) (by simp [results, Try.results111, go_sem, r0, r1, r2]) rfl ⟨h, l, _, HV.out, rfl, HN.out⟩
end Go.Proofs.Ytapfihlgemejiaa
