/- Walks over gnomonref03 and gnomonref25 that read only: Dim, Empty, Cell, cell, plus, free. | gnomonref25.ordered: a class in the order of its chain. | gnomonref25.Classes. -/
import Derived.Test.YtapfihlgemejiaaVQ4
import Derived.Test.YtapfihlgemejiaaVP4
import Derived.Test.YtapfihlgemejiaaVC1
namespace Go.Proofs.Ytapfihlgemejiaa
open Go.RowKit
/-- What a walk reads of a zone of the document's. -/
theorem RefAt.reads {w : World} {b : Nat} {z : Zn} (h : RefAt w b z) : ∃ a off c, w.cell? ⟨b, 0, none⟩ = some (.int .i64 z.n) ∧ w.cell? ⟨b, 1, none⟩ = some (.slice (some ⟨a, off, none⟩) ((z.n + 1) * (z.n + 1)) c) ∧
    ∀ i j, i ≤ z.n → j ≤ z.n → w.cell? ⟨a, off + (i * (z.n + 1) + j), none⟩ = some (.int .i32 (gt z.Z (9 * i + j))) := by
  obtain ⟨A, c, h1, h2⟩ := h.row
  have hl : 0 < (ints32 (cellsOf z)).length := by rw [ints32_length, cellsOf_length]; exact Nat.mul_pos (Nat.succ_pos _) (Nat.succ_pos _)
  obtain ⟨a, off, rfl, _, hc⟩ := h2.elems hl
  refine ⟨a, off, c, h1.cell 0, h1.cell 1, fun i j hi hj => hc _ _ ?_⟩
  unfold ints32
  rw [List.getElem?_map, cellsOf_get z hi hj]; rfl
theorem ZGood.le1 {z : Zn} (h : ZGood z) : gt z.Z 0 ≤ 1 := by
  rcases h.2 with e | e
  · rw [e]; decide
  · have := e.diag 0 (Nat.zero_le _)
    have : gt z.Z 0 = 1 := this
    omega
set_option maxHeartbeats 400000 in
theorem rempty_any (b : Nat) (z : Zn) (w : World) (h : RefAt w b z) (hz : gt z.Z 0 ≤ 1) :
    Calls Try.prog 146 #[.pointer (some ⟨b, 0, none⟩)] w fun e w' => e = .returned (.bool (emptyB z.Z)) ∧ w = w' := by
  obtain ⟨a, off, c, _, c1, hc⟩ := h.reads
  have c2 := hc 0 0 (Nat.zero_le _) (Nat.zero_le _)
  simp only [Nat.zero_mul, Nat.add_zero, Nat.mul_zero] at c2
  have hm : 0 < (z.n + 1) * (z.n + 1) := Nat.mul_pos (Nat.succ_pos _) (Nat.succ_pos _)
  have he : emptyB z.Z = !(gt z.Z 0 == 1) := by
    unfold emptyB
    by_cases e : gt z.Z 0 = 1
    · rw [e]; rfl
    · rw [decide_eq_true (by omega)]; simp [e]
  rw [he]
  clear h hc he hz
  generalize (z.n + 1) * (z.n + 1) = m at *
  generalize gt z.Z 0 = x at *
  go_enter Try.func146, Try.ntmps146
  go_wp2
  go_ret
  exact ⟨rfl, rfl⟩
end Go.Proofs.Ytapfihlgemejiaa
namespace Go.Proofs.Ytapfihlgemejiaa
open Go.RowKit
end Go.Proofs.Ytapfihlgemejiaa
namespace Go.Proofs.Ytapfihlgemejiaa
open Go.RowKit
section
variable {base : Nat} {w w1 w2 : World} {ls : List (List Nat)}
end
end Go.Proofs.Ytapfihlgemejiaa
