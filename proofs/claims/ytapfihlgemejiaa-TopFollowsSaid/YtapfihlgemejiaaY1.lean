/- TopFollows, plain: what holds of zone and valuation on the way, and that each deed keeps it. -/
import Derived.Test.YtapfihlgemejiaaY0
namespace Go.Proofs.Ytapfihlgemejiaa

def pz (x : Int) : Int := if 0 ≤ x then x else 0
theorem pz_cases (x : Int) : (0 ≤ x ∧ pz x = x) ∨ (x ≤ 0 ∧ pz x = 0) := by unfold pz; split <;> omega
/-- Zone and valuation on the way; Q tells how long ago a clock was set, o to what, S how far the cells may go, R how far the clocks may go (in twelfths). -/
structure TInv (n : Nat) (Z : List Int) (V Q o : Nat → Int) (S R : Int) : Prop where
  cl : ZCl n Z
  keep : ∀ p q, p ≤ n → q ≤ n → cellN Z p q ≠ INF → Kf (cellN Z p q) (V p - V q)
  bnd : ∀ p q, p ≤ n → q ≤ n → cellN Z p q ≠ INF → cellN Z p q / 2 ≤ pz (Q p - Q q) + o p - o q
  fin : ∀ p q, p ≤ n → q ≤ n → Q p ≤ Q q → cellN Z p q ≠ INF
  q0 : Q 0 = 0
  qr : ∀ p, p ≤ n → 0 ≤ Q p ∧ Q p ≤ S
  o0 : o 0 = 0
  or : ∀ p, p ≤ n → 0 ≤ o p ∧ o p ≤ 9
  v0 : V 0 = 0
  vr : ∀ p, p ≤ n → 0 ≤ V p ∧ V p ≤ R

section
variable {n : Nat} {Z : List Int} {V Q o : Nat → Int} {S R : Int}
theorem TInv.rng (h : TInv n Z V Q o S R) (p q : Nat) (hp : p ≤ n) (hq : q ≤ n) : cellN Z p q = INF ∨ (-536870912 ≤ cellN Z p q ∧ cellN Z p q ≤ 536870913) := h.cl.rng p q hp hq
theorem TInv.fin_tri (h : TInv n Z V Q o S R) {p k q : Nat} (hp : p ≤ n) (hk : k ≤ n) (hq : q ≤ n) (h1 : cellN Z p k ≠ INF) (h2 : cellN Z k q ≠ INF) : cellN Z p q ≠ INF := (h.cl.tri p k q hp hk hq h1 h2).1

/-- Time passes by d twelfths. -/
theorem TInv.up (h : TInv n Z V Q o S R) {d : Int} (hd : 0 ≤ d) (hS : S ≤ 1000000) (hR : R + d ≤ 1000000) {cells : List Int} (hl : cells.length = (n + 1) * (n + 1))
    (hc : ∀ p q, p ≤ n → q ≤ n → gt cells (p * (n + 1) + q) = if q = 0 ∧ p ≠ 0 then INF else cellN Z p q) :
    ∃ Z', ofZ n cells = .ok Z' ∧ TInv n Z' (fun p => if p = 0 then 0 else V p + d) (fun p => if p = 0 then 0 else Q p + 1) o (S + 1) (R + d) := by
  have hn := h.cl.dim
  have hbr : ∀ p q, p ≤ n → q ≤ n → pz ((if p = 0 then 0 else Q p + 1) - (if q = 0 then 0 else Q q + 1)) + o p - o q ≤ 2000000 := fun p q hp hq => by
    have h1 := h.qr p hp; have h2 := h.qr q hq; have h3 := h.or p hp; have h4 := h.or q hq
    rcases pz_cases ((if p = 0 then 0 else Q p + 1) - (if q = 0 then 0 else Q q + 1)) with ⟨_, e⟩ | ⟨_, e⟩ <;> rw [e] <;> (repeat' split) <;> omega
  have hvr : ∀ p, p ≤ n → 0 ≤ (if p = 0 then 0 else V p + d) ∧ (if p = 0 then 0 else V p + d) ≤ R + d := fun p hp => by
    have h1 := h.vr p hp; have h2 := h.vr 0 (by omega); split <;> omega
  obtain ⟨Z', z1, z2, z3, z4⟩ := of_total (M := fun p q => if q = 0 ∧ p ≠ 0 then INF else cellN Z p q) (V := fun p => if p = 0 then 0 else V p + d)
    (T := fun p q => pz ((if p = 0 then 0 else Q p + 1) - (if q = 0 then 0 else Q q + 1)) + o p - o q) (F := fun p q => (q = 0 → p = 0) ∧ cellN Z p q ≠ INF) hn hl hc
    (fun p q hp hq => by
      show (if _ then _ else _) = _ ∨ _
      split
      · exact .inl rfl
      · exact h.rng p q hp hq)
    (fun p hp => by show (if _ then _ else _) ≤ _; rw [if_neg (by omega), h.cl.diag p hp]; omega)
    (fun q hq => by show (if _ then _ else _) ≤ _; rw [if_neg (by omega)]; exact h.cl.row0 q hq)
    (fun p q hp hq hne => by
      by_cases e : q = 0 ∧ p ≠ 0
      · exact absurd (if_pos e) hne
      · have e2 : (if q = 0 ∧ p ≠ 0 then INF else cellN Z p q) = cellN Z p q := if_neg e
        simp only [e2] at hne ⊢
        refine (h.keep p q hp hq hne).mono ?_
        have h1 := h.v0
        have h2 := h.vr q hq
        by_cases hp0 : p = 0
        · subst hp0
          rw [if_pos rfl]
          split
          · rename_i e; subst e; omega
          · omega
        · have hq0 : q ≠ 0 := fun e3 => e ⟨e3, hp0⟩
          rw [if_neg hp0, if_neg hq0]; omega)
    (fun p q hp hq => by have h1 := hvr p hp; have h2 := hvr q hq; show _ ≤ (if p = 0 then 0 else V p + d) - (if q = 0 then 0 else V q + d); omega)
    (fun p q hp hq => by have := hbr p q hp hq; show pz _ + o p - o q ≤ _; omega)
    (fun p k q hp hk hq h1 h2 => ⟨fun e => h1.1 (h2.1 e), h.fin_tri hp hk hq h1.2 h2.2⟩)
    (fun p q hp hq hne => by
      by_cases e : q = 0 ∧ p ≠ 0
      · exact absurd (if_pos e) hne
      · have e2 : (if q = 0 ∧ p ≠ 0 then INF else cellN Z p q) = cellN Z p q := if_neg e
        simp only [e2] at hne
        exact ⟨fun e3 => by by_cases hp0 : p = 0; exact hp0; exact absurd ⟨e3, hp0⟩ e, hne⟩)
    (fun A le _ p q hp hq hF => by
      have e : ¬ (q = 0 ∧ p ≠ 0) := fun e => e.2 (hF.1 e.1)
      have e2 : (if q = 0 ∧ p ≠ 0 then INF else cellN Z p q) = cellN Z p q := if_neg e
      have h1 := le p q hp hq (by simp only [e2]; exact hF.2)
      simp only [e2] at h1
      have h2 := h.bnd p q hp hq hF.2
      show _ ≤ pz ((if p = 0 then 0 else Q p + 1) - (if q = 0 then 0 else Q q + 1)) + o p - o q
      have h3 := h.qr p hp; have h4 := h.qr q hq; have h5 := h.q0
      have h6 : pz (Q p - Q q) ≤ pz ((if p = 0 then 0 else Q p + 1) - (if q = 0 then 0 else Q q + 1)) := by
        by_cases hp0 : p = 0
        · subst hp0
          rcases pz_cases (Q 0 - Q q) with ⟨h7, e7⟩ | ⟨h7, e7⟩ <;> rcases pz_cases ((if (0 : Nat) = 0 then 0 else Q 0 + 1) - (if q = 0 then 0 else Q q + 1)) with ⟨h8, e8⟩ | ⟨h8, e8⟩ <;> rw [e7, e8] <;> (try rw [if_pos rfl] at h8) <;> (try rw [if_pos rfl]) <;> (repeat' split) <;> (repeat' split at h8) <;> omega
        · have hq0 : q ≠ 0 := fun e3 => e ⟨e3, hp0⟩
          rw [if_neg hp0, if_neg hq0, show Q p + 1 - (Q q + 1) = Q p - Q q by omega]; omega
      omega)
  refine ⟨Z', z1, ⟨z2, fun p q hp hq hne => (z4 p q hp hq hne).2, fun p q hp hq hne => (z4 p q hp hq hne).1, fun p q hp hq hQ => ?_, if_pos rfl, fun p hp => ?_, h.o0, h.or, if_pos rfl, hvr⟩⟩
  · have h3 := h.qr p hp; have h4 := h.qr q hq; have h5 := h.q0
    have e : ¬ (q = 0 ∧ p ≠ 0) := fun ⟨e1, e2⟩ => by
      simp only [if_pos e1, if_neg e2] at hQ; omega
    have e2 : (if q = 0 ∧ p ≠ 0 then INF else cellN Z p q) = cellN Z p q := if_neg e
    have h6 : Q p ≤ Q q := by
      by_cases hp0 : p = 0
      · subst hp0; omega
      · have hq0 : q ≠ 0 := fun e3 => e ⟨e3, hp0⟩
        simp only [if_neg hp0, if_neg hq0] at hQ; omega
    have h7 := h.fin p q hp hq h6
    have h8 := z3 p q hp hq (by simp only [e2]; exact h7)
    exact h8.1
  · have h3 := h.qr p hp
    show 0 ≤ (if p = 0 then 0 else Q p + 1) ∧ (if p = 0 then 0 else Q p + 1) ≤ S + 1
    split <;> omega

/-- Clock x is set to v. -/
theorem TInv.reset (h : TInv n Z V Q o S R) {x : Nat} {v : Int} (hx0 : x ≠ 0) (hx : x ≤ n) (hv : 0 ≤ v ∧ v ≤ 9) (hS0 : 0 ≤ S) (hS : S ≤ 1000000) (hR0 : 108 ≤ R) (hR : R ≤ 1000000) {cells : List Int} (hl : cells.length = (n + 1) * (n + 1))
    (hc : ∀ p q, p ≤ n → q ≤ n → gt cells (p * (n + 1) + q) =
      if p = x then (if q = x then cellN Z x x else if q = 0 then 2 * v + 1 else INF) else if q = x then (if p = 0 then -2 * v + 1 else cellN Z p 0) else cellN Z p q) :
    ∃ Z', ofZ n cells = .ok Z' ∧ TInv n Z' (fun p => if p = x then 12 * v else V p) (fun p => if p = x then 0 else Q p) (fun p => if p = x then v else o p) S R := by
  have hn := h.cl.dim
  have hb : ∀ p, p ≤ n → (0 ≤ (if p = x then 0 else Q p) ∧ (if p = x then 0 else Q p) ≤ S) ∧ (0 ≤ (if p = x then v else o p) ∧ (if p = x then v else o p) ≤ 9) ∧ (0 ≤ (if p = x then 12 * v else V p) ∧ (if p = x then 12 * v else V p) ≤ R) := fun p hp => by
    have h1 := h.qr p hp; have h2 := h.or p hp; have h3 := h.vr p hp
    split <;> omega
  have hm : ∀ p q, p ≤ n → q ≤ n → (p = x ∧ q = x) ∨ (p = x ∧ q ≠ x ∧ q = 0) ∨ (p = x ∧ q ≠ x ∧ q ≠ 0) ∨ (p ≠ x ∧ q = x ∧ p = 0) ∨ (p ≠ x ∧ q = x ∧ p ≠ 0) ∨ (p ≠ x ∧ q ≠ x) := fun p q _ _ => by omega
  have h00 := h.cl.diag 0 (by omega)
  have hxx := h.cl.diag x hx
  have hfin0 : ∀ q, q ≤ n → cellN Z 0 q ≠ INF := fun q hq => h.fin 0 q (by omega) hq (by have := h.qr q hq; rw [h.q0]; omega)
  obtain ⟨Z', z1, z2, z3, z4⟩ := of_total (M := fun p q => if p = x then (if q = x then cellN Z x x else if q = 0 then 2 * v + 1 else INF) else if q = x then (if p = 0 then -2 * v + 1 else cellN Z p 0) else cellN Z p q)
    (V := fun p => if p = x then 12 * v else V p)
    (T := fun p q => pz ((if p = x then 0 else Q p) - (if q = x then 0 else Q q)) + (if p = x then v else o p) - (if q = x then v else o q)) (F := fun p q => cellN Z (if p = x then 0 else p) (if q = x then 0 else q) ≠ INF) hn hl hc
    (fun p q hp hq => by
      rcases hm p q hp hq with ⟨e1, e2⟩ | ⟨e1, e2, e3⟩ | ⟨e1, e2, e3⟩ | ⟨e1, e2, e3⟩ | ⟨e1, e2, e3⟩ | ⟨e1, e2⟩
      · simp only [if_pos e1, if_pos e2]; exact h.rng x x hx hx
      · simp only [if_pos e1, if_neg e2, if_pos e3]; omega
      · simp only [if_pos e1, if_neg e2, if_neg e3]; exact .inl trivial
      · simp only [if_neg e1, if_pos e2, if_pos e3]; omega
      · simp only [if_neg e1, if_pos e2, if_neg e3]; exact h.rng p 0 hp (by omega)
      · simp only [if_neg e1, if_neg e2]; exact h.rng p q hp hq)
    (fun p hp => by
      by_cases e : p = x
      · simp only [if_pos e]; omega
      · simp only [if_neg e]; rw [h.cl.diag p hp]; omega)
    (fun q hq => by
      by_cases e : q = x
      · simp only [if_neg (Ne.symm hx0), if_pos e]; simp; omega
      · simp only [if_neg (Ne.symm hx0), if_neg e]; exact h.cl.row0 q hq)
    (fun p q hp hq hne => by
      have hv0 := h.v0
      rcases hm p q hp hq with ⟨e1, e2⟩ | ⟨e1, e2, e3⟩ | ⟨e1, e2, e3⟩ | ⟨e1, e2, e3⟩ | ⟨e1, e2, e3⟩ | ⟨e1, e2⟩
      · simp only [if_pos e1, if_pos e2, hxx]; unfold Kf; omega
      · simp only [if_pos e1, if_neg e2, if_pos e3]; subst e3; rw [hv0]; unfold Kf; omega
      · simp only [if_pos e1, if_neg e2, if_neg e3] at hne; exact absurd rfl hne
      · simp only [if_neg e1, if_pos e2, if_pos e3]; subst e3; rw [hv0]; unfold Kf; omega
      · simp only [if_neg e1, if_pos e2, if_neg e3] at hne ⊢
        refine (h.keep p 0 hp (by omega) hne).mono (by omega)
      · simp only [if_neg e1, if_neg e2] at hne ⊢
        exact h.keep p q hp hq hne)
    (fun p q hp hq => by have h1 := (hb p hp).2.2; have h2 := (hb q hq).2.2; show _ ≤ (if p = x then 12 * v else V p) - (if q = x then 12 * v else V q); omega)
    (fun p q hp hq => by
      have h1 := hb p hp; have h2 := hb q hq
      show pz ((if p = x then 0 else Q p) - (if q = x then 0 else Q q)) + (if p = x then v else o p) - (if q = x then v else o q) ≤ _
      rcases pz_cases ((if p = x then 0 else Q p) - (if q = x then 0 else Q q)) with ⟨_, e⟩ | ⟨_, e⟩ <;> rw [e] <;> omega)
    (fun p k q hp hk hq h1 h2 => h.fin_tri (by split <;> omega) (by split <;> omega) (by split <;> omega) h1 h2)
    (fun p q hp hq hne => by
      rcases hm p q hp hq with ⟨e1, e2⟩ | ⟨e1, e2, e3⟩ | ⟨e1, e2, e3⟩ | ⟨e1, e2, e3⟩ | ⟨e1, e2, e3⟩ | ⟨e1, e2⟩
      · simp only [if_pos e1, if_pos e2, h00]; decide
      · simp only [if_pos e1, if_neg e2]; subst e3; rw [h00]; decide
      · simp only [if_pos e1, if_neg e2, if_neg e3] at hne; exact absurd rfl hne
      · simp only [if_neg e1, if_pos e2]; subst e3; rw [h00]; decide
      · simp only [if_neg e1, if_pos e2, if_neg e3] at hne ⊢; exact hne
      · simp only [if_neg e1, if_neg e2] at hne ⊢; exact hne)
    (fun A le tri p q hp hq hF => by
      have ax0 := le x 0 hx (by omega) (by simp only [if_neg (Ne.symm hx0)]; show (2 * v + 1 : Int) ≠ INF; unfold INF; omega)
      have a0x := le 0 x (by omega) hx (by simp only [if_neg (Ne.symm hx0)]; show (-2 * v + 1 : Int) ≠ INF; unfold INF; omega)
      simp only [if_neg (Ne.symm hx0)] at ax0 a0x
      have ax0 : A x 0 ≠ NONE ∧ A x 0 ≤ 2 * v + 1 := ax0
      have a0x : A 0 x ≠ NONE ∧ A 0 x ≤ -2 * v + 1 := a0x
      rcases hm p q hp hq with ⟨e1, e2⟩ | ⟨e1, e2, e3⟩ | ⟨e1, e2, e3⟩ | ⟨e1, e2, e3⟩ | ⟨e1, e2, e3⟩ | ⟨e1, e2⟩
      · have h1 := le p q hp hq (by simp only [if_pos e1, if_pos e2, hxx]; decide)
        simp only [if_pos e1, if_pos e2, hxx] at h1 ⊢
        rcases pz_cases (0 - 0) with ⟨_, e⟩ | ⟨_, e⟩ <;> rw [e] <;> omega
      · subst e3; subst e1
        simp only [if_neg e2]
        show A p 0 / 2 ≤ pz (0 - Q 0) + v - o 0
        rw [h.q0, h.o0]
        rcases pz_cases (0 - 0) with ⟨_, e⟩ | ⟨_, e⟩ <;> rw [e] <;> omega
      · subst e1
        simp only [if_neg e2] at hF ⊢
        have hF : cellN Z 0 q ≠ INF := hF
        have h1 := le 0 q (by omega) hq (by simp only [if_neg (Ne.symm hx0), if_neg e2]; exact hF)
        simp only [if_neg (Ne.symm hx0), if_neg e2] at h1
        have h2 := tri p 0 q hp (by omega) hq ax0.1 h1.1
        have h3 := plus2_num (A p 0) (A 0 q)
        have h4 := h.bnd 0 q (by omega) hq hF
        rw [h.q0, h.o0] at h4
        show _ ≤ pz (0 - Q q) + v - o q
        omega
      · subst e3; subst e2
        simp only [if_neg e1]
        show A 0 q / 2 ≤ pz (Q 0 - 0) + o 0 - v
        rw [h.q0, h.o0]
        rcases pz_cases (0 - 0) with ⟨_, e⟩ | ⟨_, e⟩ <;> rw [e] <;> omega
      · subst e2
        simp only [if_neg e1] at hF ⊢
        have hF : cellN Z p 0 ≠ INF := hF
        have h1 := le p 0 hp (by omega) (by simp only [if_neg e1, if_neg (Ne.symm hx0)]; exact hF)
        simp only [if_neg e1, if_neg (Ne.symm hx0)] at h1
        have h2 := tri p 0 q hp (by omega) hq h1.1 a0x.1
        have h3 := plus2_num (A p 0) (A 0 q)
        have h4 := h.bnd p 0 hp (by omega) hF
        rw [h.q0, h.o0] at h4
        show _ ≤ pz (Q p - 0) + o p - v
        omega
      · simp only [if_neg e1, if_neg e2] at hF ⊢
        have h1 := le p q hp hq (by simp only [if_neg e1, if_neg e2]; exact hF)
        simp only [if_neg e1, if_neg e2] at h1
        have h4 := h.bnd p q hp hq hF
        omega)
  refine ⟨Z', z1, ⟨z2, fun p q hp hq hne => (z4 p q hp hq hne).2, fun p q hp hq hne => (z4 p q hp hq hne).1, fun p q hp hq hQ => ?_, by simp only [if_neg (Ne.symm hx0)]; exact h.q0, fun p hp => (hb p hp).1, by simp only [if_neg (Ne.symm hx0)]; exact h.o0, fun p hp => (hb p hp).2.1, by simp only [if_neg (Ne.symm hx0)]; exact h.v0, fun p hp => (hb p hp).2.2⟩⟩
  have zx0 := (z3 x 0 hx (by omega) (by simp only [if_neg (Ne.symm hx0)]; show (2 * v + 1 : Int) ≠ INF; unfold INF; omega)).1
  rcases hm p q hp hq with ⟨e1, e2⟩ | ⟨e1, e2, e3⟩ | ⟨e1, e2, e3⟩ | ⟨e1, e2, e3⟩ | ⟨e1, e2, e3⟩ | ⟨e1, e2⟩
  · exact (z3 p q hp hq (by simp only [if_pos e1, if_pos e2, hxx]; decide)).1
  · exact (z3 p q hp hq (by simp only [if_pos e1, if_neg e2, if_pos e3]; unfold INF; omega)).1
  · subst e1
    exact (z2.tri p 0 q hp (by omega) hq zx0 (z3 0 q (by omega) hq (by simp only [if_neg (Ne.symm hx0), if_neg e2]; exact hfin0 q hq)).1).1
  · exact (z3 p q hp hq (by simp only [if_neg e1, if_pos e2, if_pos e3]; unfold INF; omega)).1
  · simp only [if_neg e1, if_pos e2] at hQ
    exact (z3 p q hp hq (by simp only [if_neg e1, if_pos e2, if_neg e3]; exact h.fin p 0 hp (by omega) (by rw [h.q0]; exact hQ))).1
  · simp only [if_neg e1, if_neg e2] at hQ
    exact (z3 p q hp hq (by simp only [if_neg e1, if_neg e2]; exact h.fin p q hp hq hQ)).1
end
end Go.Proofs.Ytapfihlgemejiaa
