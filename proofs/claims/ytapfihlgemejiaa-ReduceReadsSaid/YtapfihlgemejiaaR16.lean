/- reduce.Back, reduce.Few on any zone; ReduceFewest. -/
import Derived.Test.YtapfihlgemejiaaR15
import Derived.Test.YtapfihlgemejiaaP4
namespace Go.Proofs.Ytapfihlgemejiaa
open Go.RowKit

/-- A zone that the program made: empty, or closed. -/
def ZGood (z : Zn) : Prop := z.n ≤ 8 ∧ (z.Z = zeros ∨ ZCl z.n z.Z)
theorem ZFrom.good {n : Nat} {L Z : List Int} (hn : n ≤ 8) (h : ZFrom n L Z) : ZGood ⟨n, Z⟩ := by
  rcases h with ⟨_, h⟩ | ⟨h, _⟩
  · exact ⟨hn, .inl h⟩
  · exact ⟨hn, .inr h⟩
theorem ZCl.cells32 {n : Nat} {Z : List Int} (h : ZCl n Z) : Cells32 ⟨n, Z⟩ := fun i j hi hj => h.rng i j hi hj
theorem ZCl.few_le {n : Nat} {Z : List Int} (h : ZCl n Z) : (fewL Z n).length ≤ 162 := by
  have hok := classesL_ok Z n h.dim
  rw [fewL_eq, List.length_append]
  have h1 := putsTo_length Z (classesL Z n) (fun q hq => (hok.2 q hq).2.1) _ (Nat.le_refl _)
  have h2 := pairsTo_length Z (classesL Z n) hok.1 _ (Nat.le_refl _)
  have := hok.1
  omega
def FewPost (z : Zn) (w : World) (e : Ending) (w' : World) : Prop := ∃ v, e = .returned (.tuple #[v, .int .i64 0]) ∧ w'.ownsRow w.heap.size 100 3 v (fewN z).length (limRow (fewN z)) ∧ New w w'
theorem few_all (b : Nat) (z : Zn) (w : World) (h : ZoneAt w b z) (hg : ZGood z) : Calls Try.prog 67 #[.pointer (some ⟨b, 0, none⟩)] w (FewPost z w) := by
  obtain ⟨n, Z⟩ := z
  rcases hg with ⟨_, h0 | h0⟩
  · have h0 : Z = zeros := h0
    subst h0
    refine (fewB_empty b _ w h zeros_empty).mono ?_
    rintro e w' ⟨v, he, ho, hn⟩
    refine ⟨v, he, ?_, hn⟩
    unfold fewN
    rw [if_pos zeros_empty]
    exact ho
  · have h0 : ZCl n Z := h0
    refine (fewB_any b _ w h h0.not_empty h0.cells32).mono ?_
    rintro e w' ⟨v, he, ho, hn⟩
    refine ⟨v, he, ?_, hn⟩
    unfold fewN
    rw [if_neg (by rw [h0.not_empty]; decide), List.length_map]
    exact ho
set_option maxHeartbeats 400000 in
theorem back_any (n : Int) (v : Value) (w : World) (Q : Ending → World → Prop) (hQ : ∀ e w', Q e w' → ∃ p c, e = .returned (.tuple #[p, c])) (h : Calls Try.prog 82 #[.int .i64 n, v] w Q) :
    Calls Try.prog 65 #[.int .i64 n, v] w Q := by
  have H := Lib.hid h
  have HQ := Lib.hid hQ
  clear h hQ
  go_enter Try.func65, Try.ntmps65
  go_wp2_with fail
  refine H.out.mono ?_
  intro e w' hq
  obtain ⟨p, c, he⟩ := HQ.out e w' hq
  subst he
  have HP := Lib.hid hq
  clear hq
  go_wp2_with fail
  exact HP.out
def BackPost (n : Int) (l : List Lim) (w : World) (e : Ending) (w' : World) : Prop := ZRet w n (limZ n l) e w' ∧ New w w'
theorem back_lims (n : Int) (A : Option Addr) (c : Nat) (l : List Lim) (w : World) (hl : l.length < 4611686018427387904) (hA : Elems w w.heap.size A (limRow l)) :
    Calls Try.prog 65 #[.int .i64 n, .slice A l.length c] w (BackPost n l w) := by
  refine back_any n _ w _ (fun e w' h => ?_) (limits_any n A l.length c l w rfl hl hA)
  obtain ⟨hz, _⟩ := h
  unfold ZRet at hz
  split at hz
  · exact ⟨_, _, hz⟩
  · obtain ⟨g, he, _⟩ := hz
    exact ⟨_, _, he⟩
theorem limZ_err {n : Int} {l : List Lim} {c : Int} (h : limZ n l = .err c) : c = 12 ∨ c = 7 ∨ c = 10 := by
  unfold limZ at h
  split at h
  · injection h with h; exact .inl h.symm
  · split at h
    · injection h with h; exact .inr (.inl h.symm)
    · unfold zoneOf at h
      split at h
      · cases h
      · split at h
        · injection h with h; exact .inr (.inr h.symm)
        · cases h
theorem limZ_nat {n : Int} {l : List Lim} {Z : List Int} (h : limZ n l = .ok Z) : ∃ k : Nat, n = k ∧ k ≤ 8 := by
  unfold limZ at h
  split at h
  · cases h
  · rename_i hf
    have : fewB n = true := by simpa using hf
    unfold fewB at this
    simp at this
    exact ⟨n.toNat, by omega, by omega⟩
set_option maxHeartbeats 1000000 in
theorem reduceFewest_any (n : Int) (A : Option Addr) (c : Nat) (l : List Lim) (w : World) (hl : LimsIn w A l) :
    Calls Try.prog 13 #[.int .i64 n, .slice A l.length c] w fun e w' => e = .returned (.bool true) ∧ Below w.heap.size w w' := by
  have B := Lib.hid (back_lims n A c l w (by have := hl.2.2; omega) hl.1)
  have LV := Lib.hid live25_any
  clear hl
  cases hq : limZ n l with
  | err k =>
    have hk := limZ_err hq
    have hk0 : k ≠ 0 := by omega
    have HQ := Lib.hid hq
    clear hq hk
    go_enter Try.func13, Try.ntmps13
    go_wp2_with fail
    refine B.out.mono ?_
    rintro e w1 ⟨hz, hn1⟩
    rw [HQ.out] at hz
    have hz : e = .returned (.tuple #[.pointer none, .int .i64 k]) := hz
    subst hz
    have N1 := Lib.hid hn1
    clear hn1 B
    go_wp2_with fail
    refine (LV.out w1).mono ?_
    rintro e w2 ⟨rfl, hn2⟩
    go_wp2_with fail
    go_ret
    exact ⟨rfl, (N1.out.trans hn2).below (Nat.le_refl _)⟩
  | ok Z =>
    obtain ⟨k, rfl, hk8⟩ := limZ_nat hq
    obtain ⟨_, _, L, _, _, _, _, hf⟩ := limZ_ok hq
    have HF := Lib.hid (fewN_fewest hq)
    have HG := Lib.hid (hf.good hk8)
    have HLEN := Lib.hid hf.len
    have HQ := Lib.hid hq
    clear hq hf
    go_enter Try.func13, Try.ntmps13
    go_wp2_with fail
    refine B.out.mono ?_
    rintro e w1 ⟨hz, hn1⟩
    rw [HQ.out] at hz
    obtain ⟨g, rfl, hg, hr⟩ := hz
    have hza : ZoneAt w1 g ⟨k, Z⟩ := ⟨hr, HLEN.out, hk8⟩
    have F := Lib.hid (few_all g ⟨k, Z⟩ w1 hza HG.out)
    have N1 := Lib.hid hn1
    clear hr hza hn1 B
    go_wp2_with fail
    refine F.out.mono ?_
    rintro e w2 ⟨v, rfl, ho, hn2⟩
    obtain ⟨A2, c2, hv⟩ := own_form ho
    subst hv
    have N2 := Lib.hid (N1.out.trans hn2)
    have hle : ((fewN ⟨k, Z⟩).length : Int) ≤ (l.length : Int) := by have := HF.out; omega
    clear ho hn2 F
    go_wp2_with fail
    refine (LV.out w2).mono ?_
    rintro e w3 ⟨rfl, hn3⟩
    go_wp2_with fail
    go_ret
    exact ⟨rfl, (N2.out.trans hn3).below (Nat.le_refl _)⟩
end Go.Proofs.Ytapfihlgemejiaa
