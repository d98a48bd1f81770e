/- Walks over package gnomonlaw16: run. -/
import Derived.Test.YtapfihlgemejiaaVS8
namespace Go.Proofs.Ytapfihlgemejiaa
open Go.RowKit
/-- A step as it lies in memory. -/
structure StpAt (w : World) (B : Nat) (b o : Nat) (x : Stp) : Prop where
  kind : w.cell? ⟨b, o, none⟩ = some (.int .i64 x.kind)
  key : ∃ A c, w.cell? ⟨b, o + 1, none⟩ = some (.slice A x.key.length c) ∧ Elems w B A (x.key.map (Value.int .u8))
  num : w.cell? ⟨b, o + 2, none⟩ = some (.int .i64 x.n)
  cells : ∃ A c, w.cell? ⟨b, o + 3, none⟩ = some (.slice A x.cells.length c) ∧ Elems w B A (x.cells.map (Value.int .i32))
  bytes : Bytes x.key
  len : x.key.length ≤ 140737488355328
def StpsAt (w : World) (B : Nat) (A : Option Addr) (l : List Stp) : Prop :=
  l.length ≤ 2199023255552 ∧ ∀ i x, l[i]? = some x → ∃ b o, A = some ⟨b, o, none⟩ ∧ b < B ∧ StpAt w B b (o + i * 4) x

theorem ofZ_ok {n : Int} {cells Z : List Int} (h : ofZ n cells = .ok Z) : ∃ k : Nat, n = k ∧ k ≤ 8 ∧ Z.length = 81 := by
  unfold ofZ at h
  split at h
  · cases h
  · rename_i hf
    have hf : fewB n = true := by simpa using hf
    obtain ⟨h0, h8⟩ := fewB_true hf
    obtain ⟨k, rfl⟩ := Int.eq_ofNat_of_zero_le h0
    split at h
    · cases h
    · split at h
      · cases h
      · exact ⟨k, rfl, by omega, zoneOf_length _ _ _ h⟩

/-- What a step's zone is in memory: none, or a new one. -/
def StpZone (w w' : World) (x : Stp) (p : Option Addr) : Prop := match zoneS x with
  | none => p = none
  | some z => ∃ zb, p = some ⟨zb, 0, none⟩ ∧ w.heap.size ≤ zb ∧ ZoneAt w' zb z
theorem stpZone {w : World} (x : Stp) {A : Option Addr} {c : Nat} (hA : Elems w w.heap.size A (x.cells.map (Value.int .i32))) :
    Calls Try.prog 26 #[.int .i64 x.n, .slice A x.cells.length c] w fun e w' => ∃ p er, e = .returned (.tuple #[.pointer p, .int .i64 er]) ∧ StpZone w w' x p ∧ New w w' := by
  refine (of_any x.n A x.cells.length c x.cells w rfl hA).mono ?_
  rintro e w' ⟨hz, hn⟩
  cases hq : ofZ x.n x.cells with
  | err k =>
    rw [hq] at hz
    exact ⟨none, k, hz, by unfold StpZone; rw [zoneS_err hq], hn⟩
  | ok Z =>
    rw [hq] at hz
    obtain ⟨g, he, hg, hr⟩ := hz
    obtain ⟨k, hk, h8, hl⟩ := ofZ_ok hq
    refine ⟨some ⟨g, 0, none⟩, 0, he, ?_, hn⟩
    unfold StpZone
    rw [zoneS_ok hq]
    refine ⟨g, rfl, hg, ?_, hl, ?_⟩
    · rw [hk] at hr ⊢; exact hr
    · rw [hk]; simpa using h8

end Go.Proofs.Ytapfihlgemejiaa
