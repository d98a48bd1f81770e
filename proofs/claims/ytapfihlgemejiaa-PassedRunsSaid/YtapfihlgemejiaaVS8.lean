/- Walks over package gnomonlaw16: upTo, live, most. -/
import Derived.Test.YtapfihlgemejiaaVS7
import Derived.Test.YtapfihlgemejiaaVD3
namespace Go.Proofs.Ytapfihlgemejiaa
open Go.RowKit
def upL (v : Int) : List Lim := [⟨1, 0, 2 * v + 1⟩]
def zrZ : ZR → List Int
  | .ok Z => Z
  | .err _ => []
def upZ (v : Int) : Zn := ⟨1, zrZ (limZ 1 (upL v))⟩
def upOk (v : Int) : Bool := match limZ 1 (upL v) with
  | .ok Z => decide (Z.length = 81)
  | .err _ => false
theorem upOk_form {v : Int} (h : upOk v = true) : limZ 1 (upL v) = .ok (upZ v).Z ∧ (upZ v).Z.length = 81 := by
  unfold upOk at h
  unfold upZ
  split at h
  · rename_i Z hz
    rw [hz]
    exact ⟨rfl, by simpa [zrZ] using h⟩
  · cases h
theorem up3 : upOk 3 = true := by kernel_rfl
theorem up4 : upOk 4 = true := by kernel_rfl
theorem up5 : upOk 5 = true := by kernel_rfl

set_option maxRecDepth 100000 in
theorem upTo_any (v : Int) (h : upOk v = true) (h0 : 0 ≤ v) (h1 : v ≤ 100) (w : World) :
    Calls Try.prog 22 #[.int .i64 v] w fun e w' => ∃ zb, e = .returned (.pointer (some ⟨zb, 0, none⟩)) ∧ w.heap.size ≤ zb ∧ ZoneAt w' zb (upZ v) ∧ New w w' := by
  obtain ⟨hz, hl⟩ := upOk_form h
  have hel : Elems (w.alloc (.cells #[.int .i64 1, .int .i64 0, .int .i32 (2 * v + 1)] 100)) (w.heap.size + 1) (some ⟨w.heap.size, 0, none⟩) (limRow (upL v)) :=
    elems_news w 100 [.int .i64 1, .int .i64 0, .int .i32 (2 * v + 1)]
  have hlim := limits_any 1 (some ⟨w.heap.size, 0, none⟩) 1 1 (upL v) (w.alloc (.cells #[.int .i64 1, .int .i64 0, .int .i32 (2 * v + 1)] 100)) rfl (by show 1 < 4611686018427387904; decide) (by rw [World.size_alloc]; exact hel)
  rw [hz] at hlim
  have HLIM := Lib.hid hlim
  clear hlim hel h hz
  go_enter Try.func22, Try.ntmps22
  go_wp2_with fail
  refine HLIM.out.mono ?_
  rintro e w' ⟨⟨g, rfl, hg, hrow⟩, hn⟩
  rw [World.size_alloc] at hg
  go_wp2
  go_ret
  exact ⟨g, rfl, by omega, ⟨hrow, hl, by show 1 ≤ 8; decide⟩, ((New.refl w).alloc _).trans hn⟩

theorem elemsT_new (w : World) (t : TypeId) (cs : List Value) : ElemsT (w.alloc (.cells cs.toArray t)) t (some ⟨w.heap.size, 0, none⟩) cs := fun _ =>
  ⟨w.heap.size, 0, cs.toArray, (0, 0), rfl, heap_alloc_new w _, fun j u hu => by simpa using hu⟩
theorem new_of_below {w w' : World} (h : Below w.heap.size w w') : New w w' := Fr.of_below h (fun k h1 h2 => by omega)
theorem bytes1 : Bytes [1] := by intro x hx; simp at hx; omega

section
variable (ka : Option (Nat × Nat)) (kc zb : Nat) (ka2 : Option (Nat × Nat)) (kc2 zb2 : Nat)
def s1 : Sto := putS (newSto false) [1] (upZ 3) ka kc zb
def s2 : Sto := putS (s1 ka kc zb) [1] (upZ 5) ka2 kc2 zb2
theorem s0_cov : coversS (newSto false).ents [1] (upZ 3) = -1 := by kernel_rfl
theorem s0_len : (newSto false).ents.length = 0 := by kernel_rfl
theorem s0_drop : dropped (newSto false).ents [1] (upZ 3) = [] := by kernel_rfl
theorem s1_cov : coversS (s1 ka kc zb).ents [1] (upZ 5) = -1 := by kernel_rfl
theorem s1_len : (s1 ka kc zb).ents.length = 1 := by kernel_rfl
theorem s1_drop : dropped (s1 ka kc zb).ents [1] (upZ 5) = [0] := by kernel_rfl
theorem s2_cov : coversS (s2 ka kc zb ka2 kc2 zb2).ents [1] (upZ 4) = 1 := by kernel_rfl
theorem s2_wait : waitS (s2 ka kc zb ka2 kc2 zb2) = 1 :: [] := by kernel_rfl
theorem s2_gone : (entAt (takeS (s2 ka kc zb ka2 kc2 zb2) 1).ents 0).gone = true := by kernel_rfl
theorem s2_len2 : (takeS (s2 ka kc zb ka2 kc2 zb2) 1).ents.length = 2 := by kernel_rfl
end
end Go.Proofs.Ytapfihlgemejiaa
