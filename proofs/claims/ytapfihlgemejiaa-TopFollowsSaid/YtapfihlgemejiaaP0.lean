/- Plain: what a closed matrix holds: it is closed, it is below what it came of, each cell is the sum of a walk. | Plain: what holds of a zone's cells: closed, in bounds, each the sum of a walk over the bounds that it came of. -/
import Derived.Test.YtapfihlgemejiaaA0
import Derived.Test.YtapfihlgemejiaaR0
-- Plain: what a closed matrix holds: it is closed, it is below what it came of, each cell is the sum of a walk.
namespace Go.Proofs.Ytapfihlgemejiaa

/-- The sum of two bounds. -/
def plus2 (a b : Int) : Int := if a % 2 = 1 ∨ b % 2 = 1 then a + b - 1 else a + b
theorem plus2_num (a b : Int) : plus2 a b / 2 = a / 2 + b / 2 := by unfold plus2; split <;> omega
theorem plus2_odd (a b : Int) : plus2 a b % 2 = 1 ↔ a % 2 = 1 ∧ b % 2 = 1 := by unfold plus2; split <;> omega
theorem plus2_comm (a b : Int) : plus2 a b = plus2 b a := by unfold plus2; split <;> split <;> omega
theorem plus2_assoc (a b c : Int) : plus2 (plus2 a b) c = plus2 a (plus2 b c) := by
  have h1 := plus2_num (plus2 a b) c
  have h2 := plus2_num a b
  have h3 := plus2_num a (plus2 b c)
  have h4 := plus2_num b c
  have o1 := plus2_odd (plus2 a b) c
  have o2 := plus2_odd a b
  have o3 := plus2_odd a (plus2 b c)
  have o4 := plus2_odd b c
  omega
theorem plus2_mono {a a' b b' : Int} (h : a ≤ a') (k : b ≤ b') : plus2 a b ≤ plus2 a' b' := by
  have h1 := plus2_num a b
  have h2 := plus2_num a' b'
  have o1 := plus2_odd a b
  have o2 := plus2_odd a' b'
  omega
theorem plus2_one (a : Int) : plus2 a 1 = a := by unfold plus2; split <;> omega
theorem one_plus2 (a : Int) : plus2 1 a = a := by rw [plus2_comm, plus2_one]
/-- An odd summand shifts. -/
theorem plus2_shift (a : Int) {b : Int} (h : b % 2 = 1) : plus2 a b = a + b - 1 := by unfold plus2; rw [if_pos (.inr h)]
theorem sumI_fin {a b : Int} (ha : a ≠ NONE) (hb : b ≠ NONE) : sumI a b = plus2 a b := by
  unfold sumI plus2
  rw [if_neg (by rintro (h | h); exact ha h; exact hb h)]
/-- A cell that is reckoned with: none, or far from it. -/
def Sml (a : Int) : Prop := a = NONE ∨ (-1152921504606846976 ≤ a ∧ a ≤ 1152921504606846976)
theorem sumI_none {a b : Int} (ha : Sml a) (hb : Sml b) : sumI a b = NONE ↔ a = NONE ∨ b = NONE := by
  unfold Sml NONE at *
  unfold sumI NONE
  split
  · rename_i h; exact ⟨fun _ => h, fun _ => rfl⟩
  · rename_i h
    constructor
    · intro h2; split at h2 <;> omega
    · intro h2; exact absurd h2 h
theorem Sml.of {B a : Int} (hB : B ≤ 1152921504606846976) (h : a = NONE ∨ (-B ≤ a ∧ a ≤ B)) : Sml a := by
  rcases h with h | h
  · exact .inl h
  · exact .inr ⟨by omega, by omega⟩
theorem mn_cases (a b : Int) : mn a b = a ∨ mn a b = b := by unfold mn; split <;> simp

/-- Walks over the finite cells of a matrix of n clocks, with their sums. -/
inductive Wk (n : Nat) (L : List Int) : Nat → Nat → Int → Prop
  | one {p q : Nat} {c : Int} : p ≤ n → q ≤ n → gt L (9 * p + q) = c → c ≠ NONE → Wk n L p q c
  | cons {p k q : Nat} {a b : Int} : p ≤ n → k ≤ n → gt L (9 * p + k) = a → a ≠ NONE → Wk n L k q b → Wk n L p q (plus2 a b)
theorem Wk.cat {n : Nat} {L : List Int} {p k q : Nat} {a b : Int} (h : Wk n L p k a) (h2 : Wk n L k q b) : Wk n L p q (plus2 a b) := by
  induction h with
  | one hp hq e hn => exact .cons hp hq e hn h2
  | cons hp hk e hn _ ih => rw [plus2_assoc]; exact .cons hp hk e hn (ih h2)

/-- What is known of the matrix at the head of the round of k. -/
structure Half (n k : Nat) (L A : List Int) : Prop where
  le : ∀ p q, p ≤ n → q ≤ n → gt A (9 * p + q) ≤ gt L (9 * p + q)
  tri : ∀ i m j, i ≤ n → m < k → m ≤ n → j ≤ n → gt A (9 * i + m) ≠ NONE → gt A (9 * m + j) ≠ NONE → gt A (9 * i + j) ≤ plus2 (gt A (9 * i + m)) (gt A (9 * m + j))
  wk : ∀ p q, p ≤ n → q ≤ n → gt A (9 * p + q) ≠ NONE → Wk n L p q (gt A (9 * p + q))

theorem half_next (n k : Nat) (L A M : List Int) {B : Int} (hn : n ≤ 8) (hk : k ≤ n) (hB : B ≤ 1125899906842624) (hb : Bd B A) (hA : A.length = 81) (hkk : gt A (10 * k) = 1) (h : Half n k L A)
    (hM : lpO (fun i L => rowO n k i L) (n + 1) A = some M) : Half n (k + 1) L M := by
  obtain ⟨r1, _⟩ := round_part n k A hn hA hk hkk (n + 1) (by omega) M hM
  have hr : ∀ p q, p ≤ n → q ≤ n → gt M (9 * p + q) = mn (gt A (9 * p + q)) (sumI (gt A (9 * p + k)) (gt A (9 * k + q))) := fun p q hp hq => by
    rw [r1 p q (by omega), if_pos (by omega)]
  have hs : ∀ t, Sml (gt A t) := fun t => Sml.of (by omega) (hb t)
  have hkk' : gt A (9 * k + k) = 1 := by rw [show 9 * k + k = 10 * k by omega]; exact hkk
  -- each cell: the old one, or the way through k
  have hc : ∀ p q, p ≤ n → q ≤ n → gt M (9 * p + q) ≤ gt A (9 * p + q) ∧ (gt A (9 * p + k) ≠ NONE → gt A (9 * k + q) ≠ NONE → gt M (9 * p + q) ≤ plus2 (gt A (9 * p + k)) (gt A (9 * k + q))) ∧
      (gt M (9 * p + q) ≠ NONE → (gt M (9 * p + q) = gt A (9 * p + q) ∧ gt A (9 * p + q) ≠ NONE) ∨ (gt A (9 * p + k) ≠ NONE ∧ gt A (9 * k + q) ≠ NONE ∧ gt M (9 * p + q) = plus2 (gt A (9 * p + k)) (gt A (9 * k + q)))) := by
    intro p q hp hq
    have e := hr p q hp hq
    have l1 := mn_le (gt A (9 * p + q)) (sumI (gt A (9 * p + k)) (gt A (9 * k + q)))
    have l2 := mn_le' (gt A (9 * p + q)) (sumI (gt A (9 * p + k)) (gt A (9 * k + q)))
    rw [← e] at l1 l2
    refine ⟨l1, fun h1 h2 => by rwa [sumI_fin h1 h2] at l2, fun hne => ?_⟩
    rcases mn_cases (gt A (9 * p + q)) (sumI (gt A (9 * p + k)) (gt A (9 * k + q))) with h1 | h1
    · left; rw [← e] at h1; exact ⟨h1, by rw [← h1]; exact hne⟩
    · rw [← e] at h1
      by_cases h2 : gt A (9 * p + k) = NONE
      · exact absurd (h1.trans ((sumI_none (hs _) (hs _)).2 (.inl h2))) hne
      · by_cases h3 : gt A (9 * k + q) = NONE
        · exact absurd (h1.trans ((sumI_none (hs _) (hs _)).2 (.inr h3))) hne
        · right; exact ⟨h2, h3, by rw [h1, sumI_fin h2 h3]⟩
  refine ⟨fun p q hp hq => Int.le_trans (hc p q hp hq).1 (h.le p q hp hq), fun i m j hi hm hmn hj h1 h2 => ?_, fun p q hp hq hne => ?_⟩
  · -- the triangle
    have ik := (hc i j hi hj).2.1
    by_cases hmk : m = k
    · subst hmk
      have e1 : gt M (9 * i + m) = gt A (9 * i + m) := by
        rw [hr i m hi hmn, hkk', sumI_one_right, mn_self]
      have e2 : gt M (9 * m + j) = gt A (9 * m + j) := by
        rw [hr m j hmn hj, hkk', sumI_one_left, mn_self]
      rw [e1] at h1 ⊢
      rw [e2] at h2 ⊢
      exact ik h1 h2
    · have hm' : m < k := by omega
      rcases (hc i m hi hmn).2.2 h1 with ⟨a1, a2⟩ | ⟨a1, a2, a3⟩
      · rcases (hc m j hmn hj).2.2 h2 with ⟨b1, b2⟩ | ⟨b1, b2, b3⟩
        · rw [a1, b1]
          exact Int.le_trans (hc i j hi hj).1 (h.tri i m j hi hm' hmn hj a2 b2)
        · have t := h.tri i m k hi hm' hmn hk a2 b1
          have f : gt A (9 * i + k) ≠ NONE := by
            intro e
            rw [e] at t
            have s1 := (hs (9 * i + m)).resolve_left a2
            have s2 := (hs (9 * m + k)).resolve_left b1
            have := plus2_num (gt A (9 * i + m)) (gt A (9 * m + k))
            unfold NONE at t; omega
          rw [a1, b3, ← plus2_assoc]
          exact Int.le_trans (ik f b2) (plus2_mono t (Int.le_refl _))
      · rcases (hc m j hmn hj).2.2 h2 with ⟨b1, b2⟩ | ⟨b1, b2, b3⟩
        · have t := h.tri k m j hk hm' hmn hj a2 b2
          have f : gt A (9 * k + j) ≠ NONE := by
            intro e
            rw [e] at t
            have s1 := (hs (9 * k + m)).resolve_left a2
            have s2 := (hs (9 * m + j)).resolve_left b2
            have := plus2_num (gt A (9 * k + m)) (gt A (9 * m + j))
            unfold NONE at t; omega
          rw [a3, b1, plus2_assoc]
          exact Int.le_trans (ik a1 f) (plus2_mono (Int.le_refl _) t)
        · have t := h.tri k m k hk hm' hmn hk a2 b1
          rw [hkk'] at t
          rw [a3, b3, plus2_assoc, ← plus2_assoc (gt A (9 * k + m))]
          refine Int.le_trans (ik a1 b2) (plus2_mono (Int.le_refl _) ?_)
          have := plus2_mono t (Int.le_refl (gt A (9 * k + j)))
          rwa [one_plus2] at this
  · rcases (hc p q hp hq).2.2 hne with ⟨a1, a2⟩ | ⟨a1, a2, a3⟩
    · rw [a1]; exact h.wk p q hp hq a2
    · rw [a3]; exact (h.wk p k hp hk a1).cat (h.wk k q hk hq a2)

theorem half_start (n : Nat) (L : List Int) : Half n 0 L L := ⟨fun _ _ _ _ => Int.le_refl _, fun _ _ _ _ h => absurd h (Nat.not_lt_zero _), fun _ _ hp hq h => .one hp hq rfl h⟩
theorem halves (n : Nat) (L : List Int) (hn : n ≤ 8) (h : Start n L) :
    ∀ k, k ≤ n + 1 → ∀ A, lpO (fun k L => lpO (fun i L => rowO n k i L) (n + 1) L) k L = some A → Half n k L A := by
  intro k
  induction k with
  | zero => intro _ A hA; cases hA; exact half_start n L
  | succ k ih =>
    intro hk A hA
    rw [lpO_succ] at hA
    cases hq : lpO (fun k L => lpO (fun i L => rowO n k i L) (n + 1) L) k L with
    | none => rw [hq] at hA; cases hA
    | some M =>
      rw [hq] at hA
      have hA : lpO (fun i L => rowO n k i L) (n + 1) M = some A := hA
      have hh := heads n L hn (by omega) h.head k (by omega) M hq
      have hnext := head_next n k M A hn (by omega) (B := 4 ^ k * 1073741824) (by
        have : k = 0 ∨ k = 1 ∨ k = 2 ∨ k = 3 ∨ k = 4 ∨ k = 5 ∨ k = 6 ∨ k = 7 ∨ k = 8 := by omega
        rcases this with rfl | rfl | rfl | rfl | rfl | rfl | rfl | rfl | rfl <;> decide) hh hA
      have hbig : (4 : Int) ^ k * 1073741824 ≤ 1125899906842624 := by
        have : k = 0 ∨ k = 1 ∨ k = 2 ∨ k = 3 ∨ k = 4 ∨ k = 5 ∨ k = 6 ∨ k = 7 ∨ k = 8 := by omega
        rcases this with rfl | rfl | rfl | rfl | rfl | rfl | rfl | rfl | rfl <;> decide
      exact half_next n k L M A hn (by omega) hbig hh.bd hh.len hnext.1 (ih (by omega) M hq) hA
end Go.Proofs.Ytapfihlgemejiaa
-- Plain: what holds of a zone's cells: closed, in bounds, each the sum of a walk over the bounds that it came of.
namespace Go.Proofs.Ytapfihlgemejiaa

/-- What a zone that is not empty holds. -/
structure ZCl (n : Nat) (Z : List Int) : Prop where
  len : Z.length = 81
  dim : n ≤ 8
  diag : ∀ i, i ≤ n → cellN Z i i = 1
  row0 : ∀ j, j ≤ n → cellN Z 0 j ≤ 1
  rng : ∀ i j, i ≤ n → j ≤ n → cellN Z i j = INF ∨ (-536870912 ≤ cellN Z i j ∧ cellN Z i j ≤ 536870913)
  tri : ∀ i k j, i ≤ n → k ≤ n → j ≤ n → cellN Z i k ≠ INF → cellN Z k j ≠ INF → cellN Z i j ≠ INF ∧ cellN Z i j ≤ plus2 (cellN Z i k) (cellN Z k j)
  out : ∀ i j, j < 9 → ¬ (i ≤ n ∧ j ≤ n) → cellN Z i j = 0

theorem outL_cell {L Z Z' : List Int} {i j : Nat} (h : outL L i j Z = some Z') (hZ : Z.length = 81) (hi : i < 9) (hj : j < 9) :
    ((gt L (9 * i + j) = NONE ∧ gt Z' (9 * i + j) = INF) ∨ (-536870912 ≤ gt L (9 * i + j) ∧ gt L (9 * i + j) ≤ 536870913 ∧ gt Z' (9 * i + j) = gt L (9 * i + j))) ∧
      ∀ p q, q < 9 → ¬ (p = i ∧ q = j) → gt Z' (9 * p + q) = gt Z (9 * p + q) := by
  unfold outL at h
  split at h
  · rename_i h1
    cases h
    refine ⟨.inl ⟨h1, by rw [gt_st_cell _ _ _ _ _ _ hZ hi hj hj, if_pos ⟨rfl, rfl⟩]⟩, fun p q hq hne => ?_⟩
    rw [gt_st_cell _ _ _ _ _ _ hZ hi hj hq, if_neg hne]
  · split at h
    · cases h
    · rename_i h2
      cases h
      refine ⟨.inr ⟨by omega, by omega, by rw [gt_st_cell _ _ _ _ _ _ hZ hi hj hj, if_pos ⟨rfl, rfl⟩]⟩, fun p q hq hne => ?_⟩
      rw [gt_st_cell _ _ _ _ _ _ hZ hi hj hq, if_neg hne]
/-- A cell as it comes out. -/
def OutC (a b : Int) : Prop := (a = NONE ∧ b = INF) ∨ (-536870912 ≤ a ∧ a ≤ 536870913 ∧ b = a)
theorem outRow {L : List Int} {i : Nat} (hi : i < 9) : ∀ m, m ≤ 9 → ∀ Z Z', Z.length = 81 → lpO (fun j Z => outL L i j Z) m Z = some Z' →
    Z'.length = 81 ∧ (∀ q, q < m → OutC (gt L (9 * i + q)) (gt Z' (9 * i + q))) ∧ ∀ p q, q < 9 → ¬ (p = i ∧ q < m) → gt Z' (9 * p + q) = gt Z (9 * p + q) := by
  intro m
  induction m with
  | zero => intro _ Z Z' hZ h; cases h; exact ⟨hZ, fun q hq => absurd hq (Nat.not_lt_zero _), fun _ _ _ _ => rfl⟩
  | succ m ih =>
    intro hm Z Z' hZ h
    rw [lpO_succ] at h
    cases hq : lpO (fun j Z => outL L i j Z) m Z with
    | none => rw [hq] at h; cases h
    | some M =>
      rw [hq] at h
      have h : outL L i m M = some Z' := h
      obtain ⟨h1, h2, h3⟩ := ih (by omega) Z M hZ hq
      obtain ⟨c1, c2⟩ := outL_cell h h1 hi (by omega)
      refine ⟨by rw [outL_length _ _ _ _ _ h, h1], fun q hq' => ?_, fun p q hq9 hne => ?_⟩
      · by_cases e : q = m
        · subst e; exact c1
        · rw [c2 i q (by omega) (by omega)]; exact h2 q (by omega)
      · rw [c2 p q hq9 (by omega), h3 p q hq9 (by omega)]
theorem outAll {n : Nat} {L : List Int} (hn : n ≤ 8) : ∀ m, m ≤ n + 1 → ∀ Z Z', Z.length = 81 → lpO (fun i Z => lpO (fun j Z => outL L i j Z) (n + 1) Z) m Z = some Z' →
    Z'.length = 81 ∧ (∀ p q, p < m → q ≤ n → OutC (gt L (9 * p + q)) (gt Z' (9 * p + q))) ∧ ∀ p q, q < 9 → ¬ (p < m ∧ q ≤ n) → gt Z' (9 * p + q) = gt Z (9 * p + q) := by
  intro m
  induction m with
  | zero => intro _ Z Z' hZ h; cases h; exact ⟨hZ, fun p q hp => absurd hp (Nat.not_lt_zero _), fun _ _ _ _ => rfl⟩
  | succ m ih =>
    intro hm Z Z' hZ h
    rw [lpO_succ] at h
    cases hq : lpO (fun i Z => lpO (fun j Z => outL L i j Z) (n + 1) Z) m Z with
    | none => rw [hq] at h; cases h
    | some M =>
      rw [hq] at h
      have h : lpO (fun j Z => outL L m j Z) (n + 1) M = some Z' := h
      obtain ⟨h1, h2, h3⟩ := ih (by omega) Z M hZ hq
      obtain ⟨c0, c1, c2⟩ := outRow (by omega) (n + 1) (by omega) M Z' h1 h
      refine ⟨c0, fun p q hp hqn => ?_, fun p q hq9 hne => ?_⟩
      · by_cases e : p = m
        · subst e; exact c1 q (by omega)
        · rw [c2 p q (by omega) (by omega)]; exact h2 p q (by omega) hqn
      · rw [c2 p q hq9 (by omega), h3 p q hq9 (by omega)]

/-- A zone that comes of a matrix: empty, or closed, below it, each cell the sum of a walk. -/
def ZFrom (n : Nat) (L Z : List Int) : Prop := (closeL n L = none ∧ Z = zeros) ∨
  (ZCl n Z ∧ (∀ p q, p ≤ n → q ≤ n → gt L (9 * p + q) ≠ NONE → cellN Z p q ≠ INF ∧ cellN Z p q ≤ gt L (9 * p + q)) ∧ ∀ p q, p ≤ n → q ≤ n → cellN Z p q ≠ INF → Wk n L p q (cellN Z p q))
theorem closed_of (n : Nat) (L A : List Int) (hn : n ≤ 8) (h : Start n L) (hA : closeL n L = some A) : Half n (n + 1) L A ∧ (∀ i, i ≤ n → gt A (10 * i) = 1) ∧ A.length = 81 := by
  have hh := heads n L hn (by omega) h.head (n + 1) (Nat.le_refl _) A hA
  refine ⟨halves n L hn h (n + 1) (Nat.le_refl _) A hA, fun i hi => ?_, hh.len⟩
  rcases hh.diag with h0 | h0
  · omega
  · exact h0 i hi
theorem zoneOf_from {n : Nat} {L Z : List Int} (hn : n ≤ 8) (h : Start n L) (h0 : ∀ j, j ≤ n → gt L j ≤ 1) (hz : zoneOf n L = .ok Z) : ZFrom n L Z := by
  unfold zoneOf at hz
  cases hc : closeL n L with
  | none => rw [hc] at hz; injection hz with hz; exact .inl ⟨hc, hz.symm⟩
  | some A =>
    rw [hc] at hz
    simp only at hz
    cases hq : zoneL n A with
    | none => rw [hq] at hz; cases hz
    | some Z' =>
      rw [hq] at hz
      injection hz with hz
      subst hz
      obtain ⟨hh, hd, hl⟩ := closed_of n L A hn h hc
      obtain ⟨z1, z2, z3⟩ := outAll hn (n + 1) (Nat.le_refl _) zeros Z' zeros_length hq
      have hcell : ∀ p q, p ≤ n → q ≤ n → OutC (gt A (9 * p + q)) (cellN Z' p q) := fun p q hp hq => z2 p q (by omega) hq
      have hfin : ∀ p q, p ≤ n → q ≤ n → cellN Z' p q ≠ INF → gt A (9 * p + q) ≠ NONE ∧ cellN Z' p q = gt A (9 * p + q) := fun p q hp hq hne => by
        rcases hcell p q hp hq with ⟨_, e⟩ | ⟨h1, h2, e⟩
        · exact absurd e hne
        · exact ⟨by unfold NONE; omega, e⟩
      have hfin2 : ∀ p q, p ≤ n → q ≤ n → gt A (9 * p + q) ≠ NONE → cellN Z' p q = gt A (9 * p + q) ∧ cellN Z' p q ≠ INF := fun p q hp hq hne => by
        rcases hcell p q hp hq with ⟨e, _⟩ | ⟨h1, h2, e⟩
        · exact absurd e hne
        · exact ⟨e, by rw [e]; unfold INF; omega⟩
      have hle : ∀ p q, p ≤ n → q ≤ n → ∀ c : Int, c ≤ 2000000000000 → gt A (9 * p + q) ≤ c → gt A (9 * p + q) ≠ NONE := fun p q _ _ c hc h e => by rw [e] at h; unfold NONE at h; omega
      refine .inr ⟨⟨z1, hn, fun i hi => ?_, fun j hj => ?_, fun i j hi hj => ?_, fun i k j hi hk hj h1 h2 => ?_, fun i j hj hne => ?_⟩, fun p q hp hq hne => ?_, fun p q hp hq hne => ?_⟩
      · have e := hd i hi
        rw [show 10 * i = 9 * i + i by omega] at e
        rw [(hfin2 i i hi hi (by rw [e]; decide)).1, e]
      · have e := hh.le 0 j (by omega) hj
        rw [show 9 * 0 + j = j by omega] at e
        have e2 := h0 j hj
        have e3 : gt A (9 * 0 + j) ≤ 1 := by rw [show 9 * 0 + j = j by omega]; omega
        rw [(hfin2 0 j (by omega) hj (hle 0 j (by omega) hj 1 (by omega) e3)).1]
        exact e3
      · rcases hcell i j hi hj with ⟨_, e⟩ | ⟨h1, h2, e⟩
        · exact .inl e
        · exact .inr (by rw [e]; exact ⟨h1, h2⟩)
      · obtain ⟨f1, e1⟩ := hfin i k hi hk h1
        obtain ⟨f2, e2⟩ := hfin k j hk hj h2
        have t := hh.tri i k j hi (by omega) hk hj f1 f2
        have r1 : cellN Z' i k ≤ 536870913 := by
          rcases hcell i k hi hk with ⟨e, _⟩ | ⟨_, q2, q3⟩
          · exact absurd e f1
          · rw [q3]; exact q2
        have r2 : cellN Z' k j ≤ 536870913 := by
          rcases hcell k j hk hj with ⟨e, _⟩ | ⟨_, q2, q3⟩
          · exact absurd e f2
          · rw [q3]; exact q2
        rw [← e1, ← e2] at t
        have hb : plus2 (cellN Z' i k) (cellN Z' k j) ≤ 2000000000000 := by
          have := plus2_num (cellN Z' i k) (cellN Z' k j); omega
        obtain ⟨g1, g2⟩ := hfin2 i j hi hj (hle i j hi hj _ hb t)
        exact ⟨g2, by rw [g1]; exact t⟩
      · show gt Z' (9 * i + j) = 0
        rw [z3 i j hj (by omega), zeros_gt]
      · have hl1 := hh.le p q hp hq
        have hb := (h.bd (9 * p + q)).resolve_left hne
        obtain ⟨g1, g2⟩ := hfin2 p q hp hq (hle p q hp hq _ (by omega) hl1)
        exact ⟨g2, by rw [g1]; exact hl1⟩
      · obtain ⟨f1, e1⟩ := hfin p q hp hq hne
        rw [e1]
        exact hh.wk p q hp hq f1
end Go.Proofs.Ytapfihlgemejiaa
