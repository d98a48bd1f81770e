/- bound: made, AtMost, LessThan, Value; a step of a drawn region. -/
import Derived.Test.YtapfihlgemejiaaD0
import Derived.Test.YtapfihlgemejiaaWTab
namespace Go.Proofs.Ytapfihlgemejiaa
open Go.RowKit Go.Proofs.YtapfihlgemejiaaW.PrintLast
def enc (v : Int) (r : Bool) : Int := 2 * v + if r then 1 else 0
theorem enc_range {v : Int} {r : Bool} (h1 : -268435456 ≤ v) (h2 : v ≤ 268435456) : -536870912 ≤ enc v r ∧ enc v r ≤ 536870913 := by unfold enc; cases r <;> simp <;> omega
set_option maxHeartbeats 400000 in
theorem bmade_any (v : Int) (r : Bool) (h1 : -268435456 ≤ v) (h2 : v ≤ 268435456) (w : World) :
    Calls Try.prog 106 #[.int .i64 v, .bool r] w fun e w' => e = .returned (.tuple #[.int .i32 (enc v r), .int .i64 0]) ∧ w = w' := by
  have h1' : ¬ v < -268435456 := by omega
  have h2' : ¬ 268435456 < v := by omega
  cases r
  · rw [show enc v false = 2 * v by unfold enc; simp]
    go_enter Try.func106, Try.ntmps106
    go_wp2_with fail
    go_ret2
    exact ⟨rfl, rfl⟩
  · rw [show enc v true = 2 * v + 1 by unfold enc; simp]
    go_enter Try.func106, Try.ntmps106
    go_wp2_with fail
    go_ret2
    exact ⟨rfl, rfl⟩
set_option maxHeartbeats 400000 in
theorem atMost_any (v : Int) (h1 : -268435456 ≤ v) (h2 : v ≤ 268435456) (w : World) :
    Calls Try.prog 39 #[.int .i64 v] w fun e w' => e = .returned (.tuple #[.int .i32 (enc v true), .int .i64 0]) ∧ w = w' := by
  have BM := Lib.hid (fun W => bmade_any v true h1 h2 W)
  clear h1 h2
  generalize enc v true = b at *
  go_enter Try.func39, Try.ntmps39
  go_wp2_with fail
  refine (BM.out _).mono ?_
  rintro e w' ⟨rfl, rfl⟩
  go_wp2_with fail
  go_ret2
  exact ⟨rfl, rfl⟩
set_option maxHeartbeats 400000 in
theorem lessThan_any (v : Int) (h1 : -268435456 ≤ v) (h2 : v ≤ 268435456) (w : World) :
    Calls Try.prog 41 #[.int .i64 v] w fun e w' => e = .returned (.tuple #[.int .i32 (enc v false), .int .i64 0]) ∧ w = w' := by
  have BM := Lib.hid (fun W => bmade_any v false h1 h2 W)
  clear h1 h2
  generalize enc v false = b at *
  go_enter Try.func41, Try.ntmps41
  go_wp2_with fail
  refine (BM.out _).mono ?_
  rintro e w' ⟨rfl, rfl⟩
  go_wp2_with fail
  go_ret2
  exact ⟨rfl, rfl⟩
theorem i32_and_one (b : Int) : bits .and .i32 b 1 = b % 2 := by
  show IntKind.i32.wrap ((BitVec.ofInt 32 b &&& BitVec.ofInt 32 1).toNat : Int) = _
  rw [BitVec.toNat_and, show (BitVec.ofInt 32 1).toNat = 1 from rfl, Nat.and_one_is_mod, BitVec.toNat_ofInt, IntKind.wrap_i32]
  omega
set_option maxHeartbeats 400000 in
theorem value_any (v : Int) (r : Bool) (h1 : -268435456 ≤ v) (h2 : v ≤ 268435456) (w : World) :
    Calls Try.prog 113 #[.int .i32 (enc v r)] w fun e w' => e = .returned (.tuple #[.int .i64 v, .bool r, .bool true]) ∧ w = w' := by
  obtain ⟨g1, g2⟩ := enc_range (r := r) h1 h2
  have RI := Lib.hid (fun W => right_any (enc v r) W)
  have hr : rightB (enc v r) = true := decide_eq_true (.inr ⟨g1, g2⟩)
  rw [hr] at RI
  have hd : enc v r / 2 = v := by unfold enc; cases r <;> simp <;> omega
  have hm : enc v r % 2 = if r then 1 else 0 := by unfold enc; cases r <;> simp <;> omega
  have ha := i32_and_one (enc v r)
  rw [hm] at ha
  have hne : (enc v r == 2147483647) = false := by simp; omega
  have HD := Lib.hid hd
  generalize enc v r = b at *
  clear hr hm h1 h2 hd
  cases r
  · simp only [Bool.false_eq_true, if_false] at ha
    go_enter Try.func113, Try.ntmps113
    go_wp2_with fail
    refine (RI.out _).mono ?_
    rintro e w' ⟨rfl, rfl⟩
    go_wp2_with fail
    have hd := HD.out
    subst hd
    exact bodyPost_ret (v := .tuple #[.int .i64 (b / 2), .bool false, .bool true]) (by simp [results, Try.results113, go_sem]) rfl ⟨rfl, rfl⟩
  · simp only [if_true] at ha
    go_enter Try.func113, Try.ntmps113
    go_wp2_with fail
    refine (RI.out _).mono ?_
    rintro e w' ⟨rfl, rfl⟩
    go_wp2_with fail
    have hd := HD.out
    subst hd
    exact bodyPost_ret (v := .tuple #[.int .i64 (b / 2), .bool true, .bool true]) (by simp [results, Try.results113, go_sem]) rfl ⟨rfl, rfl⟩
theorem gives_ {P : Program} {ops : Array Oper} {Q : Exit → Act → World → Prop} {oi : Oper} {N : Tmp} {a : Act} {w w1 : World} {v : Value} {K : Act → World → Prop} (hw : Region.wanted oi (yielded ops a.tmps) = true) (hN : oi.dst = some N)
    (hrun : (execOp a.eval oi).run P w = .ok (.value v) w1) (h : K (a.put (some N) v) w1) : if Region.wanted oi (yielded ops a.tmps) = true then Oper.wp P oi a w K Q else K (a.put (some N) undef) w := by
  rw [if_pos hw]
  unfold Oper.wp
  rw [hrun]
  show K (a.put oi.dst v) w1
  rw [hN]
  exact h
end Go.Proofs.Ytapfihlgemejiaa
