/- reduce.round: the rank of a clock. -/
import Derived.Test.YtapfihlgemejiaaR4
namespace Go.Proofs.Ytapfihlgemejiaa
open Go.RowKit
set_option maxRecDepth 100000 in
set_option maxHeartbeats 1000000 in
theorem rank_any (b x g : Nat) (z : Zn) (w : World) (h : ZoneAt w b z) (hx : x ≤ z.n) (hr : Row w g 196 [.pointer (some ⟨b, 0, none⟩)]) :
    Calls Try.prog 172 #[.int .i64 x, .pointer (some ⟨g, 0, none⟩)] w fun e w' => e = .returned (.int .i64 (rankI z.Z x)) ∧ New w w' := by
  have c0 : w.cell? ⟨g, 0, none⟩ = some (.pointer (some ⟨b, 0, none⟩)) := hr.cell 0
  by_cases h0 : x = 0
  · subst h0
    go_enter Try.func172, Try.ntmps172
    go_wp2_with fail
    go_ret
    exact ⟨rfl, New.refl w⟩
  · have hxx : ((x : Int) == 0) = false := by simp; omega
    have A1 := Lib.hid (fun W (hn : New w W) => at_any b z x 0 W (h.new hn) hx (Nat.zero_le _))
    have A2 := Lib.hid (fun W (hn : New w W) => at_any b z 0 x W (h.new hn) (Nat.zero_le _) hx)
    have HR := Lib.hid hr
    clear hr h
    by_cases h1 : cellN z.Z x 0 ≤ 1
    · have h1' : gt z.Z (9 * x) ≤ 1 := by simpa [cellN] using h1
      by_cases h2 : cellN z.Z 0 x ≤ 1
      · have h2' : gt z.Z x ≤ 1 := by simpa [cellN] using h2
        have e : rankI z.Z x = 1 := by unfold rankI; rw [if_neg h0, if_pos ⟨h1, h2⟩]
        rw [e]
        go_enter Try.func172, Try.ntmps172
        go_wp2_with fail
        refine (A1.out _ (New.refl w)).mono ?_
        rintro e w1 ⟨rfl, hn1⟩
        have c1 : w1.cell? ⟨g, 0, none⟩ = some (.pointer (some ⟨b, 0, none⟩)) := (hn1.row HR.out).cell 0
        go_wp2_with fail
        refine (A2.out _ hn1).mono ?_
        rintro e w2 ⟨rfl, hn2⟩
        go_wp2_with fail
        go_ret
        exact ⟨rfl, hn1.trans hn2⟩
      · have h2' : ¬ gt z.Z x ≤ 1 := by simpa [cellN] using h2
        have e : rankI z.Z x = 2 := by unfold rankI; rw [if_neg h0, if_neg (fun h => h2 h.2)]
        rw [e]
        go_enter Try.func172, Try.ntmps172
        go_wp2_with fail
        refine (A1.out _ (New.refl w)).mono ?_
        rintro e w1 ⟨rfl, hn1⟩
        have c1 : w1.cell? ⟨g, 0, none⟩ = some (.pointer (some ⟨b, 0, none⟩)) := (hn1.row HR.out).cell 0
        go_wp2_with fail
        refine (A2.out _ hn1).mono ?_
        rintro e w2 ⟨rfl, hn2⟩
        go_wp2_with fail
        go_ret
        exact ⟨rfl, hn1.trans hn2⟩
    · have h1' : ¬ gt z.Z (9 * x) ≤ 1 := by simpa [cellN] using h1
      have e : rankI z.Z x = 2 := by unfold rankI; rw [if_neg h0, if_neg (fun h => h1 h.1)]
      rw [e]
      go_enter Try.func172, Try.ntmps172
      go_wp2_with fail
      refine (A1.out _ (New.refl w)).mono ?_
      rintro e w1 ⟨rfl, hn1⟩
      go_wp2_with fail
      go_ret
      exact ⟨rfl, hn1⟩
end Go.Proofs.Ytapfihlgemejiaa
