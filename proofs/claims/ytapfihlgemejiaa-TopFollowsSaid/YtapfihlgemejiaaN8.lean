/- rat.wide: sum. -/
import Derived.Test.YtapfihlgemejiaaN7
namespace Go.Proofs.Ytapfihlgemejiaa
open Go.RowKit

theorem plus_ex (ah al bh bl : Nat) (h1 : ah < 18446744073709551616) (h2 : al < 18446744073709551616) (h3 : bh < 18446744073709551616) (h4 : bl < 18446744073709551616)
    (hs : two ah al + two bh bl < 340282366920938463463374607431768211456) (w : World) :
    Calls Try.prog 161 #[.agg #[.int .u64 ah, .int .u64 al], .agg #[.int .u64 bh, .int .u64 bl]] w fun e w' => ∃ h l : Nat, h < 18446744073709551616 ∧ l < 18446744073709551616 ∧ two h l = two ah al + two bh bl ∧
      e = .returned (.agg #[.int .u64 h, .int .u64 l]) ∧ New w w' :=
  (plus_any ah al bh bl h1 h2 h3 h4 hs w).mono fun _ _ ⟨he, hn⟩ => ⟨_, _, by omega, by omega, two_parts _, he, hn⟩
/-- A call that answers two words, with what the walk reads behind it. -/
theorem kept2_of {f : FuncId} {args : Array Value} {W : World} {P : Nat → Nat → Prop} (hc : Calls Try.prog f args W fun e w' => ∃ h l : Nat, h < 18446744073709551616 ∧ l < 18446744073709551616 ∧ P h l ∧ e = .returned (.agg #[.int .u64 h, .int .u64 l]) ∧ New W w') :
    Calls Try.prog f args W fun e w' => ∃ h l : Nat, (h < 18446744073709551616 ∧ l < 18446744073709551616 ∧ P h l) ∧ e = .returned (.agg #[.int .u64 h, .int .u64 l]) ∧ (∀ g o, g < W.heap.size → w'.cell? ⟨g, o, none⟩ = W.cell? ⟨g, o, none⟩) ∧ (∀ g o, g < W.heap.size → w'.frozen? ⟨g, o, none⟩ = W.frozen? ⟨g, o, none⟩) ∧
      W.heap.size ≤ w'.heap.size ∧ New W w' := hc.mono fun _ _ ⟨h, l, a, b, c, he, hn⟩ => ⟨h, l, ⟨a, b, c⟩, he, hn.cells, hn.marks, hn.size, hn⟩
theorem ends4 {w w2 : World} {x y : Obj} (hn : New (((w.alloc x).alloc y).alloc (.cells #[.int .u64 0, .int .u64 0, .bool false] 161)).drew w2) (h l : Nat) (s : Bool) :
    Row (((w2.setCell ⟨w.heap.size + 1 + 1, 0, none⟩ (.int .u64 (h : Int))).setCell ⟨w.heap.size + 1 + 1, 1, none⟩ (.int .u64 (l : Int))).setCell ⟨w.heap.size + 1 + 1, 2, none⟩ (.bool s)) (w.heap.size + 1 + 1) 161 (wideRow2 h l s) ∧
    New w (((w2.setCell ⟨w.heap.size + 1 + 1, 0, none⟩ (.int .u64 (h : Int))).setCell ⟨w.heap.size + 1 + 1, 1, none⟩ (.int .u64 (l : Int))).setCell ⟨w.heap.size + 1 + 1, 2, none⟩ (.bool s)) := by
  have r3 : Row w2 (w.heap.size + 1 + 1) 161 [.int .u64 0, .int .u64 0, .bool false] := hn.row ((Row.new_at ((w.alloc x).alloc y) 161 [.int .u64 0, .int .u64 0, .bool false] (by simp)).drew)
  have n3 : New w w2 := ((((New.refl w).alloc x).alloc y).alloc _).drew.trans hn
  exact ⟨((r3.set 0 (.int .u64 (h : Int))).set 1 (.int .u64 (l : Int))).set 2 (.bool s), new_set3 n3 (w.heap.size + 1 + 1) (by omega) 0 1 2 (.int .u64 (h : Int)) (.int .u64 (l : Int)) (.bool s)⟩
set_option maxHeartbeats 1000000 in
/-- Of one sign: the sizes are added. -/
theorem sum_one (ah al bh bl : Nat) (s : Bool) (m n : Int) (ha : IsW ah al s m) (hb : IsW bh bl s n) (hs : two ah al + two bh bl < 340282366920938463463374607431768211456) (w : World) :
    Calls Try.prog 110 #[.agg #[.int .u64 ah, .int .u64 al, .bool s], .agg #[.int .u64 bh, .int .u64 bl, .bool s]] w (WRes (m + n) w) := by
  have pl := fun W => kept2_of (plus_ex ah al bh bl ha.1 ha.2.1 hb.1 hb.2.1 hs W)
  have PL := Lib.hid pl
  have hw : ∀ h l : Nat, h < 18446744073709551616 ∧ l < 18446744073709551616 ∧ two h l = two ah al + two bh bl → IsW h l s (m + n) := by
    rintro h l ⟨h1, h2, h3⟩
    obtain ⟨_, _, a3, a4⟩ := ha
    obtain ⟨_, _, b3, b4⟩ := hb
    refine ⟨h1, h2, ?_, ?_⟩
    · rw [h3, a3, b3]
      by_cases h0 : m < 0
      · have h5 : n < 0 := by rw [a4] at b4; simpa [h0] using b4.symm
        omega
      · have h5 : ¬ n < 0 := by rw [a4] at b4; simpa [h0] using b4.symm
        omega
    · rw [a4]
      by_cases h0 : m < 0
      · have h5 : n < 0 := by rw [a4] at b4; simpa [h0] using b4.symm
        simp only [h0, decide_true]; exact (decide_eq_true (by omega)).symm
      · have h5 : ¬ n < 0 := by rw [a4] at b4; simpa [h0] using b4.symm
        simp only [h0, decide_false]; exact (decide_eq_false (by omega)).symm
  have HW := Lib.hid hw
  clear pl ha hb hs hw
  go_enter Try.func110, Try.ntmps110
  go_wp2_with fail
  go_cut [17] (fun c17 w2 => ∃ h l : Nat, IsW h l s (m + n) ∧ Row w2 (w.heap.size + 1 + 1) 161 (wideRow2 h l s) ∧ New w w2)
  case first =>
    go_region_law (go_simp; go_at_call 161; refine (PL.out _).mono ?_; rintro e w2 ⟨h, l, hh, rfl, hc, hf, hz, hn2⟩)
    all_goals
      go_wp2
      go_meet
      case rel => exact ⟨h, l, HW.out h l hh, ends4 hn2 h l s⟩
  case rest =>
    obtain ⟨h, l, hw, hr, hn⟩ := hcut
    have r0 : wc.cell? ⟨w.heap.size + 1 + 1, 0, none⟩ = some (.int .u64 (h : Int)) := hr.cell 0
    have r1 : wc.cell? ⟨w.heap.size + 1 + 1, 1, none⟩ = some (.int .u64 (l : Int)) := hr.cell 1
    have r2 : wc.cell? ⟨w.heap.size + 1 + 1, 2, none⟩ = some (.bool s) := hr.cell 2
    have HN := Lib.hid hn
    have HV := Lib.hid hw
    clear hr hn hw
    go_wp2_with fail
    exact bodyPost_ret (v := .agg #[.int .u64 (h : Int), .int .u64 (l : Int), .bool s]) (by simp [results, Try.results110, go_sem, r0, r1, r2]) rfl ⟨h, l, _, HV.out, rfl, HN.out⟩
end Go.Proofs.Ytapfihlgemejiaa
