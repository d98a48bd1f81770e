/- Plain: what holds of a zone's cells: closed, in bounds, each the sum of a walk over the bounds that it came of. -/
import Derived.Test.YtapfihlgemejiaaP0
import Derived.Test.YtapfihlgemejiaaR1
namespace Go.Proofs.Ytapfihlgemejiaa

/-- What a zone that is not empty holds. -/
structure ZCl (n : Nat) (Z : List Int) : Prop where
  len : Z.length = 81
  dim : n ≤ 8
  diag : ∀ i, i ≤ n → cellN Z i i = 1
  row0 : ∀ j, j ≤ n → cellN Z 0 j ≤ 1
  rng : ∀ i j, i ≤ n → j ≤ n → cellN Z i j = INF ∨ (-536870912 ≤ cellN Z i j ∧ cellN Z i j ≤ 536870913)
  tri : ∀ i k j, i ≤ n → k ≤ n → j ≤ n → cellN Z i k ≠ INF → cellN Z k j ≠ INF → cellN Z i j ≠ INF ∧ cellN Z i j ≤ plus2 (cellN Z i k) (cellN Z k j)
  out : ∀ i j, j < 9 → ¬ (i ≤ n ∧ j ≤ n) → cellN Z i j = 0

theorem outL_cell {L Z Z' : List Int} {i j : Nat} (h : outL L i j Z = some Z') (hZ : Z.length = 81) (hi : i < 9) (hj : j < 9) :
    ((gt L (9 * i + j) = NONE ∧ gt Z' (9 * i + j) = INF) ∨ (-536870912 ≤ gt L (9 * i + j) ∧ gt L (9 * i + j) ≤ 536870913 ∧ gt Z' (9 * i + j) = gt L (9 * i + j))) ∧
      ∀ p q, q < 9 → ¬ (p = i ∧ q = j) → gt Z' (9 * p + q) = gt Z (9 * p + q) := by
  unfold outL at h
  split at h
  · rename_i h1
    cases h
    refine ⟨.inl ⟨h1, by rw [gt_st_cell _ _ _ _ _ _ hZ hi hj hj, if_pos ⟨rfl, rfl⟩]⟩, fun p q hq hne => ?_⟩
    rw [gt_st_cell _ _ _ _ _ _ hZ hi hj hq, if_neg hne]
  · split at h
    · cases h
    · rename_i h2
      cases h
      refine ⟨.inr ⟨by omega, by omega, by rw [gt_st_cell _ _ _ _ _ _ hZ hi hj hj, if_pos ⟨rfl, rfl⟩]⟩, fun p q hq hne => ?_⟩
      rw [gt_st_cell _ _ _ _ _ _ hZ hi hj hq, if_neg hne]
/-- A cell as it comes out. -/
def OutC (a b : Int) : Prop := (a = NONE ∧ b = INF) ∨ (-536870912 ≤ a ∧ a ≤ 536870913 ∧ b = a)
theorem outRow {L : List Int} {i : Nat} (hi : i < 9) : ∀ m, m ≤ 9 → ∀ Z Z', Z.length = 81 → lpO (fun j Z => outL L i j Z) m Z = some Z' →
    Z'.length = 81 ∧ (∀ q, q < m → OutC (gt L (9 * i + q)) (gt Z' (9 * i + q))) ∧ ∀ p q, q < 9 → ¬ (p = i ∧ q < m) → gt Z' (9 * p + q) = gt Z (9 * p + q) := by
  intro m
  induction m with
  | zero => intro _ Z Z' hZ h; cases h; exact ⟨hZ, fun q hq => absurd hq (Nat.not_lt_zero _), fun _ _ _ _ => rfl⟩
  | succ m ih =>
    intro hm Z Z' hZ h
    rw [lpO_succ] at h
    cases hq : lpO (fun j Z => outL L i j Z) m Z with
    | none => rw [hq] at h; cases h
    | some M =>
      rw [hq] at h
      have h : outL L i m M = some Z' := h
      obtain ⟨h1, h2, h3⟩ := ih (by omega) Z M hZ hq
      obtain ⟨c1, c2⟩ := outL_cell h h1 hi (by omega)
      refine ⟨by rw [outL_length _ _ _ _ _ h, h1], fun q hq' => ?_, fun p q hq9 hne => ?_⟩
      · by_cases e : q = m
        · subst e; exact c1
        · rw [c2 i q (by omega) (by omega)]; exact h2 q (by omega)
      · rw [c2 p q hq9 (by omega), h3 p q hq9 (by omega)]
theorem outAll {n : Nat} {L : List Int} (hn : n ≤ 8) : ∀ m, m ≤ n + 1 → ∀ Z Z', Z.length = 81 → lpO (fun i Z => lpO (fun j Z => outL L i j Z) (n + 1) Z) m Z = some Z' →
    Z'.length = 81 ∧ (∀ p q, p < m → q ≤ n → OutC (gt L (9 * p + q)) (gt Z' (9 * p + q))) ∧ ∀ p q, q < 9 → ¬ (p < m ∧ q ≤ n) → gt Z' (9 * p + q) = gt Z (9 * p + q) := by
  intro m
  induction m with
  | zero => intro _ Z Z' hZ h; cases h; exact ⟨hZ, fun p q hp => absurd hp (Nat.not_lt_zero _), fun _ _ _ _ => rfl⟩
  | succ m ih =>
    intro hm Z Z' hZ h
    rw [lpO_succ] at h
    cases hq : lpO (fun i Z => lpO (fun j Z => outL L i j Z) (n + 1) Z) m Z with
    | none => rw [hq] at h; cases h
    | some M =>
      rw [hq] at h
      have h : lpO (fun j Z => outL L m j Z) (n + 1) M = some Z' := h
      obtain ⟨h1, h2, h3⟩ := ih (by omega) Z M hZ hq
      obtain ⟨c0, c1, c2⟩ := outRow (by omega) (n + 1) (by omega) M Z' h1 h
      refine ⟨c0, fun p q hp hqn => ?_, fun p q hq9 hne => ?_⟩
      · by_cases e : p = m
        · subst e; exact c1 q (by omega)
        · rw [c2 p q (by omega) (by omega)]; exact h2 p q (by omega) hqn
      · rw [c2 p q hq9 (by omega), h3 p q hq9 (by omega)]

/-- A zone that comes of a matrix: empty, or closed, below it, each cell the sum of a walk. -/
def ZFrom (n : Nat) (L Z : List Int) : Prop := (closeL n L = none ∧ Z = zeros) ∨
  (ZCl n Z ∧ (∀ p q, p ≤ n → q ≤ n → gt L (9 * p + q) ≠ NONE → cellN Z p q ≠ INF ∧ cellN Z p q ≤ gt L (9 * p + q)) ∧ ∀ p q, p ≤ n → q ≤ n → cellN Z p q ≠ INF → Wk n L p q (cellN Z p q))
theorem closed_of (n : Nat) (L A : List Int) (hn : n ≤ 8) (h : Start n L) (hA : closeL n L = some A) : Half n (n + 1) L A ∧ (∀ i, i ≤ n → gt A (10 * i) = 1) ∧ A.length = 81 := by
  have hh := heads n L hn (by omega) h.head (n + 1) (Nat.le_refl _) A hA
  refine ⟨halves n L hn h (n + 1) (Nat.le_refl _) A hA, fun i hi => ?_, hh.len⟩
  rcases hh.diag with h0 | h0
  · omega
  · exact h0 i hi
theorem zoneOf_from {n : Nat} {L Z : List Int} (hn : n ≤ 8) (h : Start n L) (h0 : ∀ j, j ≤ n → gt L j ≤ 1) (hz : zoneOf n L = .ok Z) : ZFrom n L Z := by
  unfold zoneOf at hz
  cases hc : closeL n L with
  | none => rw [hc] at hz; injection hz with hz; exact .inl ⟨hc, hz.symm⟩
  | some A =>
    rw [hc] at hz
    simp only at hz
    cases hq : zoneL n A with
    | none => rw [hq] at hz; cases hz
    | some Z' =>
      rw [hq] at hz
      injection hz with hz
      subst hz
      obtain ⟨hh, hd, hl⟩ := closed_of n L A hn h hc
      obtain ⟨z1, z2, z3⟩ := outAll hn (n + 1) (Nat.le_refl _) zeros Z' zeros_length hq
      have hcell : ∀ p q, p ≤ n → q ≤ n → OutC (gt A (9 * p + q)) (cellN Z' p q) := fun p q hp hq => z2 p q (by omega) hq
      have hfin : ∀ p q, p ≤ n → q ≤ n → cellN Z' p q ≠ INF → gt A (9 * p + q) ≠ NONE ∧ cellN Z' p q = gt A (9 * p + q) := fun p q hp hq hne => by
        rcases hcell p q hp hq with ⟨_, e⟩ | ⟨h1, h2, e⟩
        · exact absurd e hne
        · exact ⟨by unfold NONE; omega, e⟩
      have hfin2 : ∀ p q, p ≤ n → q ≤ n → gt A (9 * p + q) ≠ NONE → cellN Z' p q = gt A (9 * p + q) ∧ cellN Z' p q ≠ INF := fun p q hp hq hne => by
        rcases hcell p q hp hq with ⟨e, _⟩ | ⟨h1, h2, e⟩
        · exact absurd e hne
        · exact ⟨e, by rw [e]; unfold INF; omega⟩
      have hle : ∀ p q, p ≤ n → q ≤ n → ∀ c : Int, c ≤ 2000000000000 → gt A (9 * p + q) ≤ c → gt A (9 * p + q) ≠ NONE := fun p q _ _ c hc h e => by rw [e] at h; unfold NONE at h; omega
      refine .inr ⟨⟨z1, hn, fun i hi => ?_, fun j hj => ?_, fun i j hi hj => ?_, fun i k j hi hk hj h1 h2 => ?_, fun i j hj hne => ?_⟩, fun p q hp hq hne => ?_, fun p q hp hq hne => ?_⟩
      · have e := hd i hi
        rw [show 10 * i = 9 * i + i by omega] at e
        rw [(hfin2 i i hi hi (by rw [e]; decide)).1, e]
      · have e := hh.le 0 j (by omega) hj
        rw [show 9 * 0 + j = j by omega] at e
        have e2 := h0 j hj
        have e3 : gt A (9 * 0 + j) ≤ 1 := by rw [show 9 * 0 + j = j by omega]; omega
        rw [(hfin2 0 j (by omega) hj (hle 0 j (by omega) hj 1 (by omega) e3)).1]
        exact e3
      · rcases hcell i j hi hj with ⟨_, e⟩ | ⟨h1, h2, e⟩
        · exact .inl e
        · exact .inr (by rw [e]; exact ⟨h1, h2⟩)
      · obtain ⟨f1, e1⟩ := hfin i k hi hk h1
        obtain ⟨f2, e2⟩ := hfin k j hk hj h2
        have t := hh.tri i k j hi (by omega) hk hj f1 f2
        have r1 : cellN Z' i k ≤ 536870913 := by
          rcases hcell i k hi hk with ⟨e, _⟩ | ⟨_, q2, q3⟩
          · exact absurd e f1
          · rw [q3]; exact q2
        have r2 : cellN Z' k j ≤ 536870913 := by
          rcases hcell k j hk hj with ⟨e, _⟩ | ⟨_, q2, q3⟩
          · exact absurd e f2
          · rw [q3]; exact q2
        rw [← e1, ← e2] at t
        have hb : plus2 (cellN Z' i k) (cellN Z' k j) ≤ 2000000000000 := by
          have := plus2_num (cellN Z' i k) (cellN Z' k j); omega
        obtain ⟨g1, g2⟩ := hfin2 i j hi hj (hle i j hi hj _ hb t)
        exact ⟨g2, by rw [g1]; exact t⟩
      · show gt Z' (9 * i + j) = 0
        rw [z3 i j hj (by omega), zeros_gt]
      · have hl1 := hh.le p q hp hq
        have hb := (h.bd (9 * p + q)).resolve_left hne
        obtain ⟨g1, g2⟩ := hfin2 p q hp hq (hle p q hp hq _ (by omega) hl1)
        exact ⟨g2, by rw [g1]; exact hl1⟩
      · obtain ⟨f1, e1⟩ := hfin p q hp hq hne
        rw [e1]
        exact hh.wk p q hp hq f1
end Go.Proofs.Ytapfihlgemejiaa
