/- What a row tells of an argument that is a list of numbers, in the words of the walks. -/
import Derived.Test.YtapfihlgemejiaaM2
namespace Go.Proofs.Ytapfihlgemejiaa
open Go.RowKit

theorem spot_of_cell {w : World} {a : Addr} {v : Value} (h : w.cell? a = some v) : a.spot = none ∧ a.block < w.heap.size := by
  unfold World.cell? at h
  split at h
  · rename_i c t fr hb
    split at h
    · cases h
    · rename_i hs
      refine ⟨?_, (Array.getElem?_eq_some_iff.1 hb).1⟩
      cases ha : a.spot with
      | none => rfl
      | some x => rw [ha] at hs; exact absurd rfl hs
  · cases h
theorem elems_of_cells {w : World} {k : IntKind} {x : Addr} {zs : List Int} {len : Nat} (h : ∀ i, i < zs.length → w.cell? (x.add i) = some (.int k (zs.getD i 0))) (hl : len ≤ zs.length) :
    Elems w w.heap.size (some x) ((zs.take len).map (Value.int k)) := by
  intro h0
  rw [List.length_map, List.length_take] at h0
  obtain ⟨h1, h2⟩ := spot_of_cell (h 0 (by omega))
  have hx : x.add 0 = x := rfl
  rw [hx] at h1 h2
  obtain ⟨b, off, sp⟩ := x
  have h1 : sp = none := h1
  subst h1
  refine ⟨b, off, rfl, h2, fun j u hu => ?_⟩
  rw [List.getElem?_map, List.getElem?_take] at hu
  split at hu
  · rename_i hj
    have hz : j < zs.length := by omega
    have hc := h j hz
    have e : (⟨b, off, none⟩ : Addr).add j = ⟨b, off + j, none⟩ := by
      unfold Addr.add
      split
      · rename_i h0; subst h0; rfl
      · rfl
    rw [e] at hc
    rw [hc]
    rw [List.getElem?_eq_getElem hz] at hu
    rw [List.getD_eq_getElem?_getD, List.getElem?_eq_getElem hz]
    simpa using hu
  · cases hu
theorem bytes_of_wf {zs : List Int} (h : ∀ n ∈ zs, (Lit.int .u8 n).wf = true) (len : Nat) : ∀ x ∈ zs.take len, 0 ≤ x ∧ x ≤ 255 := by
  intro x hx
  have := h x (List.mem_of_mem_take hx)
  simpa [Lit.wf, IntKind.has, IntKind.min, IntKind.max, IntKind.signed, IntKind.bits] using this
end Go.Proofs.Ytapfihlgemejiaa
