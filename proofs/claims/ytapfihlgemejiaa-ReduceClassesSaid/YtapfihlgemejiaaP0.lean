/- Plain: what a closed matrix holds: it is closed, it is below what it came of, each cell is the sum of a walk. -/
import Derived.Test.YtapfihlgemejiaaA1
import Derived.Test.YtapfihlgemejiaaA2
namespace Go.Proofs.Ytapfihlgemejiaa

/-- The sum of two bounds. -/
def plus2 (a b : Int) : Int := if a % 2 = 1 ∨ b % 2 = 1 then a + b - 1 else a + b
theorem plus2_num (a b : Int) : plus2 a b / 2 = a / 2 + b / 2 := by unfold plus2; split <;> omega
theorem plus2_odd (a b : Int) : plus2 a b % 2 = 1 ↔ a % 2 = 1 ∧ b % 2 = 1 := by unfold plus2; split <;> omega
theorem plus2_comm (a b : Int) : plus2 a b = plus2 b a := by unfold plus2; split <;> split <;> omega
theorem plus2_assoc (a b c : Int) : plus2 (plus2 a b) c = plus2 a (plus2 b c) := by
  have h1 := plus2_num (plus2 a b) c
  have h2 := plus2_num a b
  have h3 := plus2_num a (plus2 b c)
  have h4 := plus2_num b c
  have o1 := plus2_odd (plus2 a b) c
  have o2 := plus2_odd a b
  have o3 := plus2_odd a (plus2 b c)
  have o4 := plus2_odd b c
  omega
theorem plus2_mono {a a' b b' : Int} (h : a ≤ a') (k : b ≤ b') : plus2 a b ≤ plus2 a' b' := by
  have h1 := plus2_num a b
  have h2 := plus2_num a' b'
  have o1 := plus2_odd a b
  have o2 := plus2_odd a' b'
  omega
theorem plus2_one (a : Int) : plus2 a 1 = a := by unfold plus2; split <;> omega
theorem one_plus2 (a : Int) : plus2 1 a = a := by rw [plus2_comm, plus2_one]
/-- An odd summand shifts. -/
theorem plus2_shift (a : Int) {b : Int} (h : b % 2 = 1) : plus2 a b = a + b - 1 := by unfold plus2; rw [if_pos (.inr h)]
theorem sumI_fin {a b : Int} (ha : a ≠ NONE) (hb : b ≠ NONE) : sumI a b = plus2 a b := by
  unfold sumI plus2
  rw [if_neg (by rintro (h | h); exact ha h; exact hb h)]
/-- A cell that is reckoned with: none, or far from it. -/
def Sml (a : Int) : Prop := a = NONE ∨ (-1152921504606846976 ≤ a ∧ a ≤ 1152921504606846976)
theorem sumI_none {a b : Int} (ha : Sml a) (hb : Sml b) : sumI a b = NONE ↔ a = NONE ∨ b = NONE := by
  unfold Sml NONE at *
  unfold sumI NONE
  split
  · rename_i h; exact ⟨fun _ => h, fun _ => rfl⟩
  · rename_i h
    constructor
    · intro h2; split at h2 <;> omega
    · intro h2; exact absurd h2 h
theorem Sml.of {B a : Int} (hB : B ≤ 1152921504606846976) (h : a = NONE ∨ (-B ≤ a ∧ a ≤ B)) : Sml a := by
  rcases h with h | h
  · exact .inl h
  · exact .inr ⟨by omega, by omega⟩
theorem mn_cases (a b : Int) : mn a b = a ∨ mn a b = b := by unfold mn; split <;> simp

/-- Walks over the finite cells of a matrix of n clocks, with their sums. -/
inductive Wk (n : Nat) (L : List Int) : Nat → Nat → Int → Prop
  | one {p q : Nat} {c : Int} : p ≤ n → q ≤ n → gt L (9 * p + q) = c → c ≠ NONE → Wk n L p q c
  | cons {p k q : Nat} {a b : Int} : p ≤ n → k ≤ n → gt L (9 * p + k) = a → a ≠ NONE → Wk n L k q b → Wk n L p q (plus2 a b)
theorem Wk.cat {n : Nat} {L : List Int} {p k q : Nat} {a b : Int} (h : Wk n L p k a) (h2 : Wk n L k q b) : Wk n L p q (plus2 a b) := by
  induction h with
  | one hp hq e hn => exact .cons hp hq e hn h2
  | cons hp hk e hn _ ih => rw [plus2_assoc]; exact .cons hp hk e hn (ih h2)

/-- What is known of the matrix at the head of the round of k. -/
structure Half (n k : Nat) (L A : List Int) : Prop where
  le : ∀ p q, p ≤ n → q ≤ n → gt A (9 * p + q) ≤ gt L (9 * p + q)
  tri : ∀ i m j, i ≤ n → m < k → m ≤ n → j ≤ n → gt A (9 * i + m) ≠ NONE → gt A (9 * m + j) ≠ NONE → gt A (9 * i + j) ≤ plus2 (gt A (9 * i + m)) (gt A (9 * m + j))
  wk : ∀ p q, p ≤ n → q ≤ n → gt A (9 * p + q) ≠ NONE → Wk n L p q (gt A (9 * p + q))

theorem half_next (n k : Nat) (L A M : List Int) {B : Int} (hn : n ≤ 8) (hk : k ≤ n) (hB : B ≤ 1125899906842624) (hb : Bd B A) (hA : A.length = 81) (hkk : gt A (10 * k) = 1) (h : Half n k L A)
    (hM : lpO (fun i L => rowO n k i L) (n + 1) A = some M) : Half n (k + 1) L M := by
  obtain ⟨r1, _⟩ := round_part n k A hn hA hk hkk (n + 1) (by omega) M hM
  have hr : ∀ p q, p ≤ n → q ≤ n → gt M (9 * p + q) = mn (gt A (9 * p + q)) (sumI (gt A (9 * p + k)) (gt A (9 * k + q))) := fun p q hp hq => by
    rw [r1 p q (by omega), if_pos (by omega)]
  have hs : ∀ t, Sml (gt A t) := fun t => Sml.of (by omega) (hb t)
  have hkk' : gt A (9 * k + k) = 1 := by rw [show 9 * k + k = 10 * k by omega]; exact hkk
  -- each cell: the old one, or the way through k
  have hc : ∀ p q, p ≤ n → q ≤ n → gt M (9 * p + q) ≤ gt A (9 * p + q) ∧ (gt A (9 * p + k) ≠ NONE → gt A (9 * k + q) ≠ NONE → gt M (9 * p + q) ≤ plus2 (gt A (9 * p + k)) (gt A (9 * k + q))) ∧
      (gt M (9 * p + q) ≠ NONE → (gt M (9 * p + q) = gt A (9 * p + q) ∧ gt A (9 * p + q) ≠ NONE) ∨ (gt A (9 * p + k) ≠ NONE ∧ gt A (9 * k + q) ≠ NONE ∧ gt M (9 * p + q) = plus2 (gt A (9 * p + k)) (gt A (9 * k + q)))) := by
    intro p q hp hq
    have e := hr p q hp hq
    have l1 := mn_le (gt A (9 * p + q)) (sumI (gt A (9 * p + k)) (gt A (9 * k + q)))
    have l2 := mn_le' (gt A (9 * p + q)) (sumI (gt A (9 * p + k)) (gt A (9 * k + q)))
    rw [← e] at l1 l2
    refine ⟨l1, fun h1 h2 => by rwa [sumI_fin h1 h2] at l2, fun hne => ?_⟩
    rcases mn_cases (gt A (9 * p + q)) (sumI (gt A (9 * p + k)) (gt A (9 * k + q))) with h1 | h1
    · left; rw [← e] at h1; exact ⟨h1, by rw [← h1]; exact hne⟩
    · rw [← e] at h1
      by_cases h2 : gt A (9 * p + k) = NONE
      · exact absurd (h1.trans ((sumI_none (hs _) (hs _)).2 (.inl h2))) hne
      · by_cases h3 : gt A (9 * k + q) = NONE
        · exact absurd (h1.trans ((sumI_none (hs _) (hs _)).2 (.inr h3))) hne
        · right; exact ⟨h2, h3, by rw [h1, sumI_fin h2 h3]⟩
  refine ⟨fun p q hp hq => Int.le_trans (hc p q hp hq).1 (h.le p q hp hq), fun i m j hi hm hmn hj h1 h2 => ?_, fun p q hp hq hne => ?_⟩
  · -- the triangle
    have ik := (hc i j hi hj).2.1
    by_cases hmk : m = k
    · subst hmk
      have e1 : gt M (9 * i + m) = gt A (9 * i + m) := by
        rw [hr i m hi hmn, hkk', sumI_one_right, mn_self]
      have e2 : gt M (9 * m + j) = gt A (9 * m + j) := by
        rw [hr m j hmn hj, hkk', sumI_one_left, mn_self]
      rw [e1] at h1 ⊢
      rw [e2] at h2 ⊢
      exact ik h1 h2
    · have hm' : m < k := by omega
      rcases (hc i m hi hmn).2.2 h1 with ⟨a1, a2⟩ | ⟨a1, a2, a3⟩
      · rcases (hc m j hmn hj).2.2 h2 with ⟨b1, b2⟩ | ⟨b1, b2, b3⟩
        · rw [a1, b1]
          exact Int.le_trans (hc i j hi hj).1 (h.tri i m j hi hm' hmn hj a2 b2)
        · have t := h.tri i m k hi hm' hmn hk a2 b1
          have f : gt A (9 * i + k) ≠ NONE := by
            intro e
            rw [e] at t
            have s1 := (hs (9 * i + m)).resolve_left a2
            have s2 := (hs (9 * m + k)).resolve_left b1
            have := plus2_num (gt A (9 * i + m)) (gt A (9 * m + k))
            unfold NONE at t; omega
          rw [a1, b3, ← plus2_assoc]
          exact Int.le_trans (ik f b2) (plus2_mono t (Int.le_refl _))
      · rcases (hc m j hmn hj).2.2 h2 with ⟨b1, b2⟩ | ⟨b1, b2, b3⟩
        · have t := h.tri k m j hk hm' hmn hj a2 b2
          have f : gt A (9 * k + j) ≠ NONE := by
            intro e
            rw [e] at t
            have s1 := (hs (9 * k + m)).resolve_left a2
            have s2 := (hs (9 * m + j)).resolve_left b2
            have := plus2_num (gt A (9 * k + m)) (gt A (9 * m + j))
            unfold NONE at t; omega
          rw [a3, b1, plus2_assoc]
          exact Int.le_trans (ik a1 f) (plus2_mono (Int.le_refl _) t)
        · have t := h.tri k m k hk hm' hmn hk a2 b1
          rw [hkk'] at t
          rw [a3, b3, plus2_assoc, ← plus2_assoc (gt A (9 * k + m))]
          refine Int.le_trans (ik a1 b2) (plus2_mono (Int.le_refl _) ?_)
          have := plus2_mono t (Int.le_refl (gt A (9 * k + j)))
          rwa [one_plus2] at this
  · rcases (hc p q hp hq).2.2 hne with ⟨a1, a2⟩ | ⟨a1, a2, a3⟩
    · rw [a1]; exact h.wk p q hp hq a2
    · rw [a3]; exact (h.wk p k hp hk a1).cat (h.wk k q hk hq a2)

theorem half_start (n : Nat) (L : List Int) : Half n 0 L L := ⟨fun _ _ _ _ => Int.le_refl _, fun _ _ _ _ h => absurd h (Nat.not_lt_zero _), fun _ _ hp hq h => .one hp hq rfl h⟩
theorem halves (n : Nat) (L : List Int) (hn : n ≤ 8) (h : Start n L) :
    ∀ k, k ≤ n + 1 → ∀ A, lpO (fun k L => lpO (fun i L => rowO n k i L) (n + 1) L) k L = some A → Half n k L A := by
  intro k
  induction k with
  | zero => intro _ A hA; cases hA; exact half_start n L
  | succ k ih =>
    intro hk A hA
    rw [lpO_succ] at hA
    cases hq : lpO (fun k L => lpO (fun i L => rowO n k i L) (n + 1) L) k L with
    | none => rw [hq] at hA; cases hA
    | some M =>
      rw [hq] at hA
      have hA : lpO (fun i L => rowO n k i L) (n + 1) M = some A := hA
      have hh := heads n L hn (by omega) h.head k (by omega) M hq
      have hnext := head_next n k M A hn (by omega) (B := 4 ^ k * 1073741824) (by
        have : k = 0 ∨ k = 1 ∨ k = 2 ∨ k = 3 ∨ k = 4 ∨ k = 5 ∨ k = 6 ∨ k = 7 ∨ k = 8 := by omega
        rcases this with rfl | rfl | rfl | rfl | rfl | rfl | rfl | rfl | rfl <;> decide) hh hA
      have hbig : (4 : Int) ^ k * 1073741824 ≤ 1125899906842624 := by
        have : k = 0 ∨ k = 1 ∨ k = 2 ∨ k = 3 ∨ k = 4 ∨ k = 5 ∨ k = 6 ∨ k = 7 ∨ k = 8 := by omega
        rcases this with rfl | rfl | rfl | rfl | rfl | rfl | rfl | rfl | rfl <;> decide
      exact half_next n k L M A hn (by omega) hbig hh.bd hh.len hnext.1 (ih (by omega) M hq) hA
end Go.Proofs.Ytapfihlgemejiaa
