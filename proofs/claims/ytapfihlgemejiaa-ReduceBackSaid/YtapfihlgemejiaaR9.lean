/- slices.SortStableFunc at nine elements or fewer; reduce.round. -/
import Derived.Test.YtapfihlgemejiaaR8
import Derived.Test.YtapfihlgemejiaaO0
import Derived.Laws.EntriesVeiled
namespace Go.Proofs.Ytapfihlgemejiaa
open Go.RowKit

/-- What the sort is told and what it answers. -/
def SortPost (base g cap : Nat) (c d : List Nat) (w : World) (e : Ending) (w' : World) : Prop :=
  e = .returned (.tuple #[]) ∧ w'.ownsRow base 3 1 (.slice (some ⟨g, 0, none⟩) c.length cap) c.length (nats d) ∧ At g w w'
set_option maxHeartbeats 1000000 in
theorem stable_any (g cap n : Nat) (v : Value) (w : World) (hl : n ≤ 9) (Q : Ending → World → Prop) (hQ : ∀ e w', Q e w' → e = .returned (.tuple #[]))
    (hi : Calls Try.prog 195 #[.slice (some ⟨g, 0, none⟩) n cap, .int .i64 0, .int .i64 n, v] w Q) :
    Calls Try.prog 190 #[.slice (some ⟨g, 0, none⟩) n cap, .int .i64 n, v] w Q := by
  have HI := Lib.hid hi
  have HQ := Lib.hid hQ
  clear hi hQ
  go_enter Try.func190, Try.ntmps190
  go_wp2_with fail
  refine wp_loop_rounds 1 ?_
  rw [rounds_succ]
  go_wp2_with fail
  refine HI.out.mono ?_
  intro e w' hq
  have he := HQ.out e w' hq
  subst he
  have HP := Lib.hid hq
  clear hq
  go_wp2_with fail
  refine wp_loop_rounds 1 ?_
  rw [rounds_succ]
  go_wp2_with fail
  exact ⟨rfl, .tuple #[], results_none rfl _ _ _, HP.out⟩
set_option maxHeartbeats 1000000 in
theorem sort_any (g cap n : Nat) (v : Value) (w : World) (hl : n ≤ 9) (Q : Ending → World → Prop) (hQ : ∀ e w', Q e w' → e = .returned (.tuple #[]))
    (hi : Calls Try.prog 195 #[.slice (some ⟨g, 0, none⟩) n cap, .int .i64 0, .int .i64 n, v] w Q) :
    Calls Try.prog 173 #[.slice (some ⟨g, 0, none⟩) n cap, v] w Q := by
  have HI := Lib.hid (stable_any g cap n v w hl Q hQ hi)
  have HQ := Lib.hid hQ
  clear hi hQ
  go_enter Try.func173, Try.ntmps173
  go_wp2_with fail
  refine HI.out.mono ?_
  intro e w' hq
  have he := HQ.out e w' hq
  subst he
  have HP := Lib.hid hq
  clear hq
  go_wp2_with fail
  exact ⟨rfl, .tuple #[], results_none rfl _ _ _, HP.out⟩

theorem rankI_le (Z : List Int) (x : Nat) : rankI Z x ≤ 2 := by unfold rankI; repeat (first | omega | split)
theorem roundL_length (Z : List Int) (c : List Nat) : (roundL Z c).length = c.length := by
  by_cases h : c.getD 0 0 = 0
  · rw [roundL_eq Z c h, byRank_length _ (rankI_le Z)]
  · unfold roundL; rw [if_neg h]
set_option maxRecDepth 100000 in
set_option maxHeartbeats 4000000 in
theorem round_any (b : Nat) (z : Zn) (A : Option Addr) (cap : Nat) (c : List Nat) (w : World) (h : ZoneAt w b z) (hA : Elems w w.heap.size A (nats c)) (hc : ∀ i, c.getD i 0 ≤ z.n) (h0 : 0 < c.length) (hl : c.length ≤ 9) :
    Calls Try.prog 141 #[.agg #[.pointer (some ⟨b, 0, none⟩)], .slice A c.length cap] w fun e w' => ∃ A' c', e = .returned (.slice A' c.length c') ∧ w'.ownsRow w.heap.size 3 1 (.slice A' c.length c') c.length (nats (roundL z.Z c)) ∧ New w w' := by
  have hln : (nats c).length = c.length := nats_length c
  have CL := Lib.hid (clone_ints A cap (nats c) (w.alloc (.cells #[.pointer (some ⟨b, 0, none⟩)] 196)) ((hA.new ((New.refl w).alloc _) (Nat.le_refl _)).mono (by simp)) (by intro u hu; simp [nats] at hu; obtain ⟨x, _, rfl⟩ := hu; rfl) (by omega))
  rw [hln] at CL
  have hbl := h.row.lt
  have HZ := Lib.hid h
  have HC := Lib.hid hc
  clear h hA hc hln
  go_enter Try.func141, Try.ntmps141
  go_wp2_with fail
  refine CL.out.mono ?_
  rintro e w1 ⟨A1, c1, rfl, ho, hn1⟩
  obtain ⟨g, hg, hgb, hgl, hcl, _⟩ := own_cell ho (by rw [nats_length]; omega)
  subst hg
  have s0 := hcl 0 _ (nats_get c 0 h0)
  have R1 := hn1.row (Row.new_at w 196 [.pointer (some ⟨b, 0, none⟩)] rfl)
  have N1 := Lib.hid (((New.refl w).alloc _).trans hn1)
  have HO := Lib.hid ho
  have hln : (0 : Int) < c.length := by omega
  clear ho hcl hn1 CL
  by_cases hz : c.getD 0 0 = 0
  · have hzz : ((c.getD 0 0 : Nat) : Int) = 0 := by omega
    rw [hzz] at s0
    have HE := Lib.hid (roundL_eq z.Z c hz)
    have HR1 := Lib.hid R1
    clear hz hzz R1
    have hho := own_new HO.out ((New.refl w1).alloc (.cells #[.func (.func 172) #[] #[.pointer (some ⟨w.heap.size, 0, none⟩)]] 34))
    have hS := sort_any g c1 c.length (.func (.func 174) #[] #[.pointer (some ⟨w1.heap.size, 0, none⟩)]) (w1.alloc (.cells #[.func (.func 172) #[] #[.pointer (some ⟨w.heap.size, 0, none⟩)]] 34)) hl
      (SortPost w.heap.size g c1 c (byRank (rankI z.Z) c) (w1.alloc (.cells #[.func (.func 172) #[] #[.pointer (some ⟨w.heap.size, 0, none⟩)]] 34))) (fun _ _ h => h.1)
      ((insertion_any w.heap.size g c1 c z.n (rankI z.Z) (.pointer (some ⟨w1.heap.size, 0, none⟩)) _ ⟨hho.1, (own_lower hho (by simp)).2⟩ hl HC.out (rankI_le z.Z) (fun W hW x y hx hy => by
        have hgb1 : w.heap.size + 1 ≤ g := by simpa using hgb
        have hN1 := N1.out
        refine cmpRank_any b x y w.heap.size w1.heap.size z W ?_ hx hy ?_ ?_
        · exact ((HZ.out.new hN1).new ((New.refl w1).alloc _)).fr hW (by show ¬ b = g; omega)
        · exact Fr.row hW (HR1.out.alloc _) (by show ¬ w.heap.size = g; omega)
        · exact Fr.row hW (Row.new w1 34 _) (by show ¬ w1.heap.size = g; omega))).mono (fun e w' hh => by
          rw [insTo_all _ (rankI_le z.Z) c (by intro e; subst e; simp at h0)] at hh
          exact hh))
    have HS := Lib.hid hS
    clear hho hS
    go_wp2_with fail
    refine HS.out.mono ?_
    rintro e w2 ⟨rfl, ho2, hat2⟩
    rw [← HE.out] at ho2
    have HO2 := Lib.hid ho2
    clear ho2 HS
    go_wp2_with fail
    go_ret
    have hgb1 : w.heap.size + 1 ≤ g := by simpa using hgb
    exact ⟨_, _, rfl, HO2.out, New.at_ (N1.out.alloc _) hat2 (by omega)⟩
  · have hzz : ¬ ((c.getD 0 0 : Nat) : Int) = 0 := by omega
    have HE : Hid (roundL z.Z c = c) := by show roundL z.Z c = c; unfold roundL; rw [if_neg hz]
    generalize ((c.getD 0 0 : Nat) : Int) = x at s0 hzz
    clear hz
    go_wp2_with fail
    go_ret
    exact ⟨_, _, rfl, by rw [HE.out]; exact ⟨HO.out.1, (own_lower HO.out (by simp)).2⟩, N1.out⟩
end Go.Proofs.Ytapfihlgemejiaa
