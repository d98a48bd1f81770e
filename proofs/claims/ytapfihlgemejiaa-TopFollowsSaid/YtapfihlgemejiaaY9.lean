/- TopFollows, plain: a bound that the valuation keeps. -/
import Derived.Test.YtapfihlgemejiaaY1
namespace Go.Proofs.Ytapfihlgemejiaa

def ind1 (Q : Nat → Int) (k p : Nat) : Int := if Q k < Q p then 1 else 0
theorem ind1_le {Q : Nat → Int} {p q : Nat} (h : Q p ≤ Q q) (k : Nat) : ind1 Q k p ≤ ind1 Q k q := by unfold ind1; split <;> split <;> omega
theorem ind1_self (Q : Nat → Int) (p : Nat) : ind1 Q p p = 0 := by unfold ind1; rw [if_neg (by omega)]
theorem ind1_lt {Q : Nat → Int} {p q : Nat} (h : Q p < Q q) : ind1 Q p q = 1 := by unfold ind1; rw [if_pos h]
theorem ind1_cases (Q : Nat → Int) (k p : Nat) : 0 ≤ ind1 Q k p ∧ ind1 Q k p ≤ 1 := by unfold ind1; split <;> omega
/-- How many of the first four are less than p. -/
def rk (Q : Nat → Int) (p : Nat) : Int := ind1 Q 0 p + ind1 Q 1 p + ind1 Q 2 p + ind1 Q 3 p
theorem rk_cases (Q : Nat → Int) (p : Nat) : 0 ≤ rk Q p ∧ rk Q p ≤ 4 := by
  have h0 := ind1_cases Q 0 p; have h1 := ind1_cases Q 1 p; have h2 := ind1_cases Q 2 p; have h3 := ind1_cases Q 3 p
  unfold rk; omega
theorem rk_le {Q : Nat → Int} {p q : Nat} (h : Q p ≤ Q q) : rk Q p ≤ rk Q q := by
  have h0 := ind1_le h 0; have h1 := ind1_le h 1; have h2 := ind1_le h 2; have h3 := ind1_le h 3
  unfold rk; omega
theorem rk_lt {Q : Nat → Int} {p q : Nat} (hp : p ≤ 3) (h : Q p < Q q) : rk Q p + 1 ≤ rk Q q := by
  have h0 := ind1_le (Int.le_of_lt h) 0; have h1 := ind1_le (Int.le_of_lt h) 1; have h2 := ind1_le (Int.le_of_lt h) 2; have h3 := ind1_le (Int.le_of_lt h) 3
  have e1 := ind1_self Q p
  have e2 := ind1_lt h
  unfold rk
  rcases (by omega : p = 0 ∨ p = 1 ∨ p = 2 ∨ p = 3) with rfl | rfl | rfl | rfl <;> omega
theorem rk_zero {Q : Nat → Int} (h : ∀ k, k ≤ 3 → Q 0 ≤ Q k) : rk Q 0 = 0 := by
  have e : ∀ k, k ≤ 3 → ind1 Q k 0 = 0 := fun k hk => by have := h k hk; unfold ind1; rw [if_neg (by omega)]
  unfold rk
  rw [e 0 (by omega), e 1 (by omega), e 2 (by omega), e 3 (by omega)]; rfl

section
variable {n : Nat} {Z : List Int} {V Q o : Nat → Int} {S R : Int}
/-- A bound b of the difference of i0 and j0 that the valuation keeps. -/
theorem TInv.cut (h : TInv n Z V Q o S R) {i0 j0 : Nat} (hi : i0 ≤ n) (hj : j0 ≤ n) (n3 : n ≤ 3) (hq4 : ∀ k, k ≤ 3 → 0 ≤ Q k) {b : Int} (hb : -100 ≤ b) (hb2 : b ≤ 100) (hk : Kf b (V i0 - V j0)) (hS : S ≤ 900000) (hR : R ≤ 1000000)
    {cells : List Int} (hl : cells.length = (n + 1) * (n + 1))
    (hc : ∀ p q, p ≤ n → q ≤ n → gt cells (p * (n + 1) + q) = if p = i0 ∧ q = j0 then mn (cellN Z p q) b else cellN Z p q) :
    ∃ Z', ofZ n cells = .ok Z' ∧ TInv n Z' V (fun p => Q p + 59 * rk Q p) o (S + 236) R := by
  have hn := h.cl.dim
  have hI : b ≠ INF := by unfold INF; omega
  have hmin : ∀ c : Int, mn c b ≤ b := fun c => mn_le' c b
  have hminc : ∀ c : Int, mn c b ≤ c := fun c => mn_le c b
  have hmf : ∀ c : Int, mn c b ≠ INF := fun c => by have := hmin c; unfold INF; omega
  have hbr : ∀ p q, p ≤ n → q ≤ n → pz (Q p + 59 * rk Q p - (Q q + 59 * rk Q q)) + o p - o q ≤ 2000000 := fun p q hp hq => by
    have h1 := h.qr p hp; have h2 := h.qr q hq; have h3 := h.or p hp; have h4 := h.or q hq; have h5 := rk_cases Q p; have h6 := rk_cases Q q
    rcases pz_cases (Q p + 59 * rk Q p - (Q q + 59 * rk Q q)) with ⟨_, e⟩ | ⟨_, e⟩ <;> rw [e] <;> omega
  have hMn : ∀ p q, ¬ (p = i0 ∧ q = j0) → (if p = i0 ∧ q = j0 then mn (cellN Z p q) b else cellN Z p q) = cellN Z p q := fun p q e => if_neg e
  have hMy : ∀ p q, p = i0 ∧ q = j0 → (if p = i0 ∧ q = j0 then mn (cellN Z p q) b else cellN Z p q) = mn (cellN Z p q) b := fun p q e => if_pos e
  have hMle : ∀ p q, (if p = i0 ∧ q = j0 then mn (cellN Z p q) b else cellN Z p q) ≤ cellN Z p q := fun p q => by
    split
    · exact hminc _
    · exact Int.le_refl _
  have hMfin : ∀ p q, cellN Z p q ≠ INF → (if p = i0 ∧ q = j0 then mn (cellN Z p q) b else cellN Z p q) ≠ INF := fun p q hne => by
    split
    · exact hmf _
    · exact hne
  obtain ⟨Z', z1, z2, z3, z4⟩ := of_total (M := fun p q => if p = i0 ∧ q = j0 then mn (cellN Z p q) b else cellN Z p q) (V := V)
    (T := fun p q => pz (Q p + 59 * rk Q p - (Q q + 59 * rk Q q)) + o p - o q) (F := fun p q => cellN Z p q ≠ INF ∨ (cellN Z p i0 ≠ INF ∧ cellN Z j0 q ≠ INF)) hn hl hc
    (fun p q hp hq => by
      by_cases e : p = i0 ∧ q = j0
      · simp only [hMy p q e]
        rcases mn_cases (cellN Z p q) b with e2 | e2
        · rw [e2]; exact h.rng p q hp hq
        · rw [e2]; exact .inr ⟨by omega, by omega⟩
      · simp only [hMn p q e]; exact h.rng p q hp hq)
    (fun p hp => Int.le_trans (hMle p p) (by rw [h.cl.diag p hp]; omega))
    (fun q hq => Int.le_trans (hMle 0 q) (h.cl.row0 q hq))
    (fun p q hp hq hne => by
      by_cases e : p = i0 ∧ q = j0
      · simp only [hMy p q e] at hne ⊢
        rcases mn_cases (cellN Z p q) b with e2 | e2
        · rw [e2] at hne ⊢; exact h.keep p q hp hq hne
        · rw [e2, e.1, e.2]; exact hk
      · simp only [hMn p q e] at hne ⊢; exact h.keep p q hp hq hne)
    (fun p q hp hq => by have h1 := h.vr p hp; have h2 := h.vr q hq; omega)
    (fun p q hp hq => by have := hbr p q hp hq; show pz _ + o p - o q ≤ _; omega)
    (fun p k q hp hk hq h1 h2 => by
      rcases h1 with h1 | ⟨h1, h3⟩ <;> rcases h2 with h2 | ⟨h2, h4⟩
      · exact .inl (h.fin_tri hp hk hq h1 h2)
      · exact .inr ⟨h.fin_tri hp hk hi h1 h2, h4⟩
      · exact .inr ⟨h1, h.fin_tri hj hk hq h3 h2⟩
      · exact .inr ⟨h1, h4⟩)
    (fun p q hp hq hne => by
      by_cases e : p = i0 ∧ q = j0
      · obtain ⟨rfl, rfl⟩ := e
        refine .inr ⟨?_, ?_⟩
        · rw [h.cl.diag p hp]; decide
        · rw [h.cl.diag q hq]; decide
      · simp only [hMn p q e] at hne; exact .inl hne)
    (fun A le tri p q hp hq hF => by
      show _ ≤ pz (Q p + 59 * rk Q p - (Q q + 59 * rk Q q)) + o p - o q
      by_cases hpq : cellN Z p q = INF
      · obtain ⟨f1, f2⟩ := hF.resolve_left (fun h => h hpq)
        have a1 := le p i0 hp hi (hMfin p i0 f1)
        have a2 := le i0 j0 hi hj (by show (if i0 = i0 ∧ j0 = j0 then mn (cellN Z i0 j0) b else cellN Z i0 j0) ≠ INF; rw [hMy i0 j0 ⟨rfl, rfl⟩]; exact hmf _)
        have a3 := le j0 q hj hq (hMfin j0 q f2)
        have m1 := Int.le_trans a1.2 (hMle p i0)
        have m3 := Int.le_trans a3.2 (hMle j0 q)
        have m2 : A i0 j0 ≤ b := Int.le_trans a2.2 (by show (if i0 = i0 ∧ j0 = j0 then mn (cellN Z i0 j0) b else cellN Z i0 j0) ≤ b; rw [hMy i0 j0 ⟨rfl, rfl⟩]; exact hmin _)
        have r1 := (h.rng p i0 hp hi).resolve_left f1
        have r3 := (h.rng j0 q hj hq).resolve_left f2
        have t1 := tri i0 j0 q hi hj hq a2.1 a3.1
        have p1 := plus2_num (A i0 j0) (A j0 q)
        have hne : A i0 q ≠ NONE := fun e => by rw [e] at t1; unfold NONE at t1; omega
        have t2 := tri p i0 q hp hi hq a1.1 hne
        have p2 := plus2_num (A p i0) (A i0 q)
        have b1 := h.bnd p i0 hp hi f1
        have b3 := h.bnd j0 q hj hq f2
        have o1 := h.or i0 hi; have o2 := h.or j0 hj
        have hQ : Q q < Q p := by
          rcases Int.lt_or_le (Q q) (Q p) with h1 | h1
          · exact h1
          · exact absurd hpq (h.fin p q hp hq h1)
        have hr := rk_lt (Q := Q) (by omega : q ≤ 3) hQ
        have n1 : ¬ Q i0 ≤ Q j0 := fun e => (h.fin_tri hp hj hq (h.fin_tri hp hi hj f1 (h.fin i0 j0 hi hj e)) f2) hpq
        have n2 : ¬ Q p ≤ Q j0 := fun e => (h.fin_tri hp hj hq (h.fin p j0 hp hj e) f2) hpq
        have n3' : ¬ Q i0 ≤ Q q := fun e => (h.fin_tri hp hi hq f1 (h.fin i0 q hi hq e)) hpq
        have e0 : pz (Q p + 59 * rk Q p - (Q q + 59 * rk Q q)) ≥ Q p - Q q + 59 := by
          rcases pz_cases (Q p + 59 * rk Q p - (Q q + 59 * rk Q q)) with ⟨_, e⟩ | ⟨_, e⟩ <;> rw [e] <;> omega
        rcases pz_cases (Q p - Q i0) with ⟨_, e1⟩ | ⟨_, e1⟩ <;> rcases pz_cases (Q j0 - Q q) with ⟨_, e2⟩ | ⟨_, e2⟩ <;> rw [e1] at b1 <;> rw [e2] at b3 <;> omega
      · have h1 := le p q hp hq (hMfin p q hpq)
        have h2 := hMle p q
        have h3 := h.bnd p q hp hq hpq
        have h4 : pz (Q p - Q q) ≤ pz (Q p + 59 * rk Q p - (Q q + 59 * rk Q q)) := by
          rcases Int.lt_or_le (Q q) (Q p) with h5 | h5
          · have := rk_le (Int.le_of_lt h5)
            rcases pz_cases (Q p - Q q) with ⟨_, e1⟩ | ⟨_, e1⟩ <;> rcases pz_cases (Q p + 59 * rk Q p - (Q q + 59 * rk Q q)) with ⟨_, e2⟩ | ⟨_, e2⟩ <;> rw [e1, e2] <;> omega
          · rcases pz_cases (Q p - Q q) with ⟨_, e1⟩ | ⟨_, e1⟩ <;> rcases pz_cases (Q p + 59 * rk Q p - (Q q + 59 * rk Q q)) with ⟨_, e2⟩ | ⟨_, e2⟩ <;> rw [e1, e2] <;> omega
        omega)
  refine ⟨Z', z1, ⟨z2, fun p q hp hq hne => (z4 p q hp hq hne).2, fun p q hp hq hne => (z4 p q hp hq hne).1, fun p q hp hq hQ => ?_, ?_, fun p hp => ?_, h.o0, h.or, h.v0, h.vr⟩⟩
  · have h1 : Q p ≤ Q q := by
      rcases Int.lt_or_le (Q q) (Q p) with h5 | h5
      · have := rk_lt (Q := Q) (by omega : q ≤ 3) h5
        have hQ : Q p + 59 * rk Q p ≤ Q q + 59 * rk Q q := hQ
        omega
      · exact h5
    exact (z3 p q hp hq (hMfin p q (h.fin p q hp hq h1))).1
  · show Q 0 + 59 * rk Q 0 = 0
    rw [rk_zero (fun k hk => by rw [h.q0]; exact hq4 k hk), h.q0]; rfl
  · have h1 := h.qr p hp; have h2 := rk_cases Q p
    show 0 ≤ Q p + 59 * rk Q p ∧ Q p + 59 * rk Q p ≤ S + 236
    omega
end
end Go.Proofs.Ytapfihlgemejiaa
