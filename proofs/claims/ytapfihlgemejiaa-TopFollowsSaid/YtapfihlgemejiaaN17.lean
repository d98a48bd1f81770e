/- What a row tells of an argument that is a fraction, or an array of two numbers. -/
import Derived.Test.YtapfihlgemejiaaF1
import Derived.Test.YtapfihlgemejiaaRows
import Derived.ChangeSame
import Derived.OpenShut
namespace Go.Proofs.Ytapfihlgemejiaa
open Go.ChangeShapes Go.WideShapes Go.RowKit

section
variable {H : Type} {enc : TypeId × Value → H} {W : World}
theorem cellsOf2 : Try.prog.cellsOf 2 = 1 := by kernel_rfl
theorem cellsOf3 : Try.prog.cellsOf 3 = 1 := by kernel_rfl
theorem wf_i64 {n : Int} (h : (Lit.int .i64 n).wf = true) : -9223372036854775808 ≤ n ∧ n ≤ 9223372036854775807 := by
  have h' := h
  simp [Lit.wf, IntKind.min, IntKind.max, IntKind.bits, IntKind.signed] at h'
  omega
theorem two_ints {t : TypeId} {w : World} {base : Nat} {m : Nat} {cs : List Value} {xs : List (DataW H × List MemPlace)} (ht : Try.prog.underlying t = some (.int .i64)) (hl : cs.length = 2) (hx : xs.length = 2)
    (f0 : DataW.trod enc Try.prog w base (fun _ => true) true m t ((cs.drop 0).take 1) = xs[0]?) (f1 : DataW.trod enc Try.prog w base (fun _ => true) true m t ((cs.drop 1).take 1) = xs[1]?) :
    ∃ a b, cs = [.int .i64 a, .int .i64 b] ∧ (-9223372036854775808 ≤ a ∧ a ≤ 9223372036854775807) ∧ (-9223372036854775808 ≤ b ∧ b ≤ 9223372036854775807) := by
  obtain ⟨c0, c1, rfl⟩ : ∃ c0 c1, cs = [c0, c1] := by
    match cs, hl with
    | [c0, c1], _ => exact ⟨c0, c1, rfl⟩
  rw [List.getElem?_eq_getElem (show 0 < xs.length by omega)] at f0
  rw [List.getElem?_eq_getElem (show 1 < xs.length by omega)] at f1
  obtain ⟨a, ha, _, wa⟩ := DataW.trod_int ht f0
  obtain ⟨b, hb, _, wb⟩ := DataW.trod_int ht f1
  simp at ha hb
  subst ha
  subst hb
  exact ⟨a, b, rfl, wf_i64 wa, wf_i64 wb⟩
set_option maxRecDepth 100000 in
theorem open_rat {r : Reach} {b0 base : Nat} {v : Value} {d : DataW H} {ps : List MemPlace} (hval : Value.okWide Try.prog W r b0 75 v) (hd : DataW.Trod enc Try.prog W base (fun _ => true) true 75 v d ps) :
    ∃ a b, v = .agg #[.int .i64 a, .int .i64 b] ∧ (-9223372036854775808 ≤ a ∧ a ≤ 9223372036854775807) ∧ (-9223372036854775808 ≤ b ∧ b ≤ 9223372036854775807) := by
  obtain ⟨cs, rfl, _⟩ := okWide_struct Try.underlying75 hval
  obtain ⟨fuel, hf⟩ := hd
  obtain ⟨xs, m, _, _, hl, hx, hfs⟩ := DataW.trod_struct Try.underlying75 hf
  have f0 := hfs 0 _ rfl
  have f1 := hfs 1 _ rfl
  have hl : (Value.agg cs).cells.toList.length = 2 := hl
  obtain ⟨a, b, hc, ha, hb⟩ := two_ints (t := 2) Try.underlying2 hl hx f0 f1
  refine ⟨a, b, ?_, ha, hb⟩
  have : cs.toList = [.int .i64 a, .int .i64 b] := hc
  rw [← this]
set_option maxRecDepth 100000 in
theorem open_pair {r : Reach} {b0 base : Nat} {v : Value} {d : DataW H} {ps : List MemPlace} (hval : Value.okWide Try.prog W r b0 73 v) (hd : DataW.Trod enc Try.prog W base (fun _ => true) true 73 v d ps) :
    ∃ a b, v = .agg #[.int .i64 a, .int .i64 b] := by
  simp only [Value.okWide, Try.underlying73] at hval
  obtain ⟨cs, rfl, _, _⟩ := hval
  obtain ⟨fuel, hf⟩ := hd
  obtain ⟨xs, m, _, _, hl, hx, hfs⟩ := DataW.trod_array Try.underlying73 hf
  have f0 := hfs 0 (by omega)
  have f1 := hfs 1 (by omega)
  have hl : (Value.agg cs).cells.toList.length = 2 := hl
  rw [cellsOf3] at f0 f1
  obtain ⟨a, b, hc, ha, hb⟩ := two_ints (t := 3) Try.underlying3 hl hx f0 f1
  refine ⟨a, b, ?_⟩
  have : cs.toList = [.int .i64 a, .int .i64 b] := hc
  rw [← this]
end
end Go.Proofs.Ytapfihlgemejiaa
