/- gnomonref03.Cells, SameCells; reduce.Unpack of any bytes; bytes that come in with their capacity. -/
import Derived.Test.YtapfihlgemejiaaVQ8
import Derived.Test.YtapfihlgemejiaaVC1
namespace Go.Proofs.Ytapfihlgemejiaa
open Go.RowKit
set_option maxHeartbeats 1000000 in
theorem rcells_any (b : Nat) (z : Zn) (w : World) (h : RefAt w b z) : Calls Try.prog 80 #[.pointer (some ⟨b, 0, none⟩)] w (CellsPost z w) := by
  obtain ⟨i0, hi0, hz0, hz1, hz2⟩ := info_parts infoOf76
  obtain ⟨A, c, h1, h2t⟩ := h.row
  have h2 := h2t.elems
  have hd := h.dim
  have c0 := h1.cell 0
  have c1 := h1.cell 1
  obtain ⟨m, hm⟩ : ∃ m, (z.n + 1) * (z.n + 1) = m := ⟨_, rfl⟩
  have hsq : m ≤ 81 := by
    have h1 : (z.n + 1) * (z.n + 1) ≤ 9 * 9 := Nat.mul_le_mul (by omega) (by omega)
    omega
  have hcl := cellsOf_length z
  rw [hm] at c1 hcl
  simp only [List.getElem?_cons_zero, List.getElem?_cons_succ] at c0 c1
  obtain ⟨C, hC⟩ : ∃ C, cellsOf z = C := ⟨_, rfl⟩
  rw [hC] at h2 hcl
  have HC := Lib.hid hC
  have HEL := Lib.hid h2
  have HCL := Lib.hid hcl
  unfold CellsPost
  rw [hC, hcl]
  clear h h1 h2 h2t hm hC hcl
  have hO := World.ownsRow_nil (w := w) w.heap.size 76 1
  go_enter Try.func80, Try.ntmps80
  go_wp2_with (at_builtin; (refine wpList_append_elems rfl _ _ 40 rfl w.heap.size 76 i0 (.int .i32 0) 1 4 Try.underlying40 hi0 hz0 hz1 hz2 rfl (by decide) _ 0 _ (by rfl) hO _ A m c _ (by rfl) HEL.out ?c0 (ints32_one _) ?c2 ?c3 (Nat.le_refl _) ?_))
  case c0 => rw [ints32_length, HCL.out, Nat.mul_one]
  case c2 => unfold maxLen; omega
  case c3 => omega
  intro v' w' ho' hg' hb'
  have hN : New w w' := Fr.of_grown hg' (fun k hk _ => by cases hk)
  have HO := Lib.hid ho'
  clear ho' hg' hb'
  go_wp2_with fail
  go_ret
  exact ⟨_, rfl, HO.out, hN⟩
section
open Go.ChangeShapes Go.WideShapes
variable {H : Type} {enc : TypeId × Value → H} {W : World}
end
end Go.Proofs.Ytapfihlgemejiaa
