/- Copies of lists: bytes.Clone, slices.Clone at []int. -/
import Derived.Test.YtapfihlgemejiaaVO0
import Derived.Test.YtapfihlgemejiaaVS1
namespace Go.Proofs.Ytapfihlgemejiaa
open Go.RowKit
theorem infoOf5 : (Try.prog.info? 5).map (fun i => (i.zero, i.size, i.bytes)) = some (some (.int .u8 0), 1, 1) := by kernel_rfl
theorem infoOf143 : (Try.prog.info? 143).map (fun i => (i.zero, i.size, i.bytes)) = some (some (.agg #[.slice none 0 0, .pointer none, .int .i64 0, .bool false]), 4, 48) := by kernel_rfl

theorem ints_cells (k : IntKind) (l : List Int) : ∀ u ∈ l.map (Value.int k), u.oneCell' = true := by
  intro u hu
  obtain ⟨x, _, rfl⟩ := List.mem_map.1 hu
  rfl
theorem clone_bytes_nil (n c : Nat) (w : World) : Calls Try.prog 81 #[.slice none n c] w fun e w' => e = .returned (.slice none 0 0) ∧ w = w' := by
  have q : ∀ (w : World) (a : Option Addr) (n c n' c' : Nat), (binOp .eql 30 (.slice a n c) (.slice none n' c')).run Try.prog w = .ok (.bool a.isNone) w := fun w a n c n' c' => Lib.run_eql_slice_nil w _ _ a n c n' c' Try.underlying30
  go_enter Try.func81, Try.ntmps81
  go_wp2
  go_ret
  exact ⟨rfl, rfl⟩

set_option maxHeartbeats 400000 in
/-- bytes.Clone: the same bytes in new memory. -/
theorem clone_bytes (A : Option Addr) (c : Nat) (key : List Int) (w : World) (hA : Elems w w.heap.size A (key.map (Value.int .u8))) (hl : key.length ≤ 140737488355328) :
    Calls Try.prog 81 #[.slice A key.length c] w fun e w' => ∃ A' c', e = .returned (.slice A' key.length c') ∧ w'.ownsRow w.heap.size 5 1 (.slice A' key.length c') key.length (key.map (Value.int .u8)) ∧ New w w' := by
  cases A with
  | none =>
    have hk : key = [] := by simpa using hA.nil_addr
    subst hk
    refine (clone_bytes_nil _ c w).mono ?_
    rintro e w' ⟨rfl, rfl⟩
    exact ⟨_, _, rfl, World.ownsRow_nil _ _ _ _, New.refl _⟩
  | some ad =>
    have q : ∀ (w : World) (a : Option Addr) (n c n' c' : Nat), (binOp .eql 30 (.slice a n c) (.slice none n' c')).run Try.prog w = .ok (.bool a.isNone) w := fun w a n c n' c' => Lib.run_eql_slice_nil w _ _ a n c n' c' Try.underlying30
    obtain ⟨i0, hi, hz0, hz1, hz2⟩ := info_parts infoOf5
    have HA := Lib.hid (hA.new ((New.refl w).alloc (.cells #[] 5)) (Nat.le_refl _))
    clear hA
    go_enter Try.func81, Try.ntmps81
    go_wp2_with (at_builtin; refine wpList_append_elems rfl _ _ 30 rfl w.heap.size 5 i0 (.int .u8 0) 1 1 Try.underlying30 hi hz0 hz1 hz2 rfl (by decide) _ 0 [] rfl (own_empty w w.heap.size 5 1 (Nat.le_refl _)) w.heap.size _ _ _ (key.map (Value.int .u8)) rfl HA.out (by simp) (ints_cells _ _) ?c1 ?c2 ?c3 ?_)
    case c1 => unfold maxLen; omega
    case c2 => omega
    case c3 => simp
    intro v' w' ho hg _
    have hn : New w w' := ((New.refl w).alloc (.cells #[] 5)).grown hg (fun k hk => by cases hk; exact Nat.le_refl _)
    obtain ⟨A', c', rfl⟩ := own_form ho
    go_wp2
    go_ret
    exact ⟨_, _, rfl, ho, hn⟩

end Go.Proofs.Ytapfihlgemejiaa
