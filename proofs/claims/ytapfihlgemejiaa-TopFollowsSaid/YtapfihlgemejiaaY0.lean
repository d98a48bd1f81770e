/- TopFollows, plain: a valuation that goes a way stays in the zone that goes it, and the zone's cells stay in bounds. -/
import Derived.Test.YtapfihlgemejiaaP0
namespace Go.Proofs.Ytapfihlgemejiaa

/-- Does a difference d, in twelfths, keep the bound c (which is not none)? -/
def Kf (c d : Int) : Prop := d < 12 * (c / 2) ∨ (d = 12 * (c / 2) ∧ c % 2 = 1)
theorem Kf.plus {a b x y : Int} (h : Kf a x) (k : Kf b y) : Kf (plus2 a b) (x + y) := by
  unfold Kf at *
  have e := plus2_num a b
  have o := plus2_odd a b
  rw [e]
  rcases h with h | ⟨h, h2⟩ <;> rcases k with k | ⟨k, k2⟩
  · left; omega
  · left; omega
  · left; omega
  · exact .inr ⟨by omega, o.2 ⟨h2, k2⟩⟩
theorem Kf.mn {a b x : Int} (h : Kf a x) (k : Kf b x) : Kf (mn a b) x := by
  rcases mn_cases a b with e | e <;> rw [e] <;> assumption
theorem Kf.one {c : Int} (h : Kf c 0) : 1 ≤ c := by unfold Kf at h; omega
theorem Kf.mono {c x y : Int} (h : Kf c x) (hy : y ≤ x) : Kf c y := by unfold Kf at *; omega
theorem Kf.low {c x : Int} (h : Kf c x) : x ≤ 12 * (c / 2) := by unfold Kf at h; omega

/-- The valuation keeps all bounds of a matrix. -/
def KeepA (n : Nat) (V : Nat → Int) (L : List Int) : Prop := ∀ p q, p ≤ n → q ≤ n → gt L (9 * p + q) ≠ NONE → Kf (gt L (9 * p + q)) (V p - V q)
theorem KeepA.walk {n : Nat} {V : Nat → Int} {L : List Int} (h : KeepA n V L) {p q : Nat} {c : Int} (hw : Wk n L p q c) : Kf c (V p - V q) := by
  induction hw with
  | one hp hq e hn => rw [← e]; exact h _ _ hp hq (by rw [e]; exact hn)
  | @cons p k q a b hp hk e hn _ ih =>
    have h1 := h _ _ hp hk (by rw [e]; exact hn)
    rw [e] at h1
    have h2 := h1.plus ih
    rwa [show V p - V k + (V k - V q) = V p - V q by omega] at h2
theorem KeepA.cell {n : Nat} {V : Nat → Int} {L : List Int} (hn : n ≤ 8) (h : KeepA n V L) (hL : L.length = 81) {k i j : Nat} (hk : k ≤ n) (hi : i ≤ n) (hj : j ≤ n) : KeepA n V (cellL k i j L) := fun p q hp hq hne => by
  unfold cellL at hne ⊢
  rw [gt_st_cell _ _ _ _ _ _ hL (by omega) (by omega) (by omega)] at hne ⊢
  by_cases e : p = i ∧ q = j
  · rw [if_pos e] at hne ⊢
    obtain ⟨e1, e2⟩ := e
    subst e1; subst e2
    rcases mn_cases (gt L (9 * p + q)) (sumI (gt L (9 * p + k)) (gt L (9 * k + q))) with e | e
    · rw [e] at hne ⊢; exact h p q hp hq hne
    · rw [e] at hne ⊢
      by_cases h1 : gt L (9 * p + k) = NONE
      · exact absurd (by unfold sumI; rw [if_pos (.inl h1)]) hne
      · by_cases h2 : gt L (9 * k + q) = NONE
        · exact absurd (by unfold sumI; rw [if_pos (.inr h2)]) hne
        · rw [sumI_fin h1 h2]
          have h3 := (h p k hp hk h1).plus (h k q hk hq h2)
          rwa [show V p - V k + (V k - V q) = V p - V q by omega] at h3
  · rw [if_neg e] at hne ⊢; exact h p q hp hq hne

theorem lpO_total {α : Type} (P : α → Prop) (f : Nat → α → Option α) (m : Nat) (a : α) (h0 : P a) (hs : ∀ i a, i < m → P a → ∃ b, f i a = some b ∧ P b) : ∃ b, lpO f m a = some b ∧ P b := by
  induction m with
  | zero => exact ⟨a, rfl, h0⟩
  | succ m ih =>
    obtain ⟨b, h1, h2⟩ := ih (fun i a hi => hs i a (by omega))
    obtain ⟨c, h3, h4⟩ := hs m b (by omega) h2
    exact ⟨c, by rw [lpO_succ, h1]; exact h3, h4⟩
theorem close_total {n : Nat} {V : Nat → Int} {L : List Int} (hn : n ≤ 8) (hL : L.length = 81) (h : KeepA n V L) : ∃ A, closeL n L = some A := by
  have hrow : ∀ k i M, k ≤ n → i ≤ n → (M.length = 81 ∧ KeepA n V M) → ∃ M', rowO n k i M = some M' ∧ (M'.length = 81 ∧ KeepA n V M') := by
    intro k i M hk hi hM
    have h2 : (rowL n k i M).length = 81 ∧ KeepA n V (rowL n k i M) := lp_inv (fun M => M.length = 81 ∧ KeepA n V M) _ _ _ hM (fun j M hj hM => ⟨by rw [cellL_length, hM.1], hM.2.cell hn hM.1 hk hi (by omega)⟩)
    refine ⟨_, ?_, h2⟩
    unfold rowO
    rw [if_neg]
    intro hlt
    rw [show 10 * i = 9 * i + i by omega] at hlt
    by_cases hne : gt (rowL n k i M) (9 * i + i) = NONE
    · rw [hne] at hlt; exact absurd hlt (by decide)
    · have h3 := h2.2 i i hi hi hne
      rw [Int.sub_self] at h3
      have := h3.one
      omega
  obtain ⟨A, h1, _⟩ := lpO_total (fun M => M.length = 81 ∧ KeepA n V M) (fun k L => lpO (fun i L => rowO n k i L) (n + 1) L) (n + 1) L ⟨hL, h⟩
    (fun k M hk hM => lpO_total _ _ (n + 1) M hM (fun i M hi hM => hrow k i M (by omega) (by omega) hM))
  exact ⟨A, h1⟩
theorem zoneL_total {n : Nat} {A : List Int} (h : ∀ p q, p ≤ n → q ≤ n → gt A (9 * p + q) = NONE ∨ (-536870912 ≤ gt A (9 * p + q) ∧ gt A (9 * p + q) ≤ 536870913)) : ∃ Z, zoneL n A = some Z := by
  obtain ⟨Z, h1, _⟩ := lpO_total (fun _ : List Int => True) (fun i Z => lpO (fun j Z => outL A i j Z) (n + 1) Z) (n + 1) zeros trivial (fun i Z hi _ => lpO_total (fun _ : List Int => True) _ (n + 1) Z trivial (fun j Z hj _ => by
    unfold outL
    by_cases e : gt A (9 * i + j) = NONE
    · rw [if_pos e]; exact ⟨_, rfl, trivial⟩
    · obtain ⟨e1, e2⟩ := (h i j (by omega) (by omega)).resolve_left e
      rw [if_neg e, if_neg (by omega)]; exact ⟨_, rfl, trivial⟩))
  exact ⟨Z, h1⟩

/-- A matrix that a valuation keeps, whose closing stays small, makes a zone that is not empty. -/
theorem zone_total {n : Nat} {L : List Int} {V : Nat → Int} {T : Nat → Nat → Int} (hn : n ≤ 8) (hS : Start n L) (h0 : ∀ j, j ≤ n → gt L j ≤ 1) (hV : KeepA n V L)
    (hV2 : ∀ p q, p ≤ n → q ≤ n → -3000000000 ≤ V p - V q) (hT : ∀ p q, p ≤ n → q ≤ n → T p q ≤ 268435456)
    (hA : ∀ A, Half n (n + 1) L A → ∀ p q, p ≤ n → q ≤ n → gt A (9 * p + q) ≠ NONE → gt A (9 * p + q) / 2 ≤ T p q) :
    ∃ Z, zoneOf n L = .ok Z ∧ ZCl n Z ∧ (∀ p q, p ≤ n → q ≤ n → gt L (9 * p + q) ≠ NONE → cellN Z p q ≠ INF ∧ cellN Z p q ≤ gt L (9 * p + q)) ∧
      (∀ p q, p ≤ n → q ≤ n → cellN Z p q ≠ INF → cellN Z p q / 2 ≤ T p q ∧ Kf (cellN Z p q) (V p - V q)) := by
  obtain ⟨A, hc⟩ := close_total hn hS.len hV
  obtain ⟨hh, hd, hl⟩ := closed_of n L A hn hS hc
  obtain ⟨Z, hq⟩ := zoneL_total (n := n) (A := A) (fun p q hp hq => by
    by_cases e : gt A (9 * p + q) = NONE
    · exact .inl e
    · have h1 := (hV.walk (hh.wk p q hp hq e)).low
      have h2 := hV2 p q hp hq
      have h3 := hA A hh p q hp hq e
      have h4 := hT p q hp hq
      exact .inr ⟨by omega, by omega⟩)
  have hz : zoneOf n L = .ok Z := by unfold zoneOf; rw [hc]; simp only [hq]
  rcases zoneOf_from hn hS h0 hz with ⟨e, _⟩ | ⟨z1, z2, z3⟩
  · rw [e] at hc; cases hc
  · refine ⟨Z, hz, z1, z2, fun p q hp hq' hne => ⟨?_, hV.walk (z3 p q hp hq' hne)⟩⟩
    rcases (outAll hn (n + 1) (Nat.le_refl _) zeros Z zeros_length hq).2.1 p q (by omega) hq' with ⟨_, e⟩ | ⟨e1, e2, e3⟩
    · exact absurd e hne
    · have e3 : cellN Z p q = gt A (9 * p + q) := e3
      rw [e3]
      exact hA A hh p q hp hq' (by unfold NONE; omega)

/-- Of's matrix: the open cells, made as strict as the bounds. -/
theorem ofL_form {n : Nat} (hn : n ≤ 8) (cells : List Int) (hr : ∀ x ∈ cells, rightB x = true) : ∀ m, m ≤ cells.length → m ≤ (n + 1) * (n + 1) →
    ∃ L, lpO (fun t L => if rightB (gt cells t) then some (keepL L (t / (n + 1)) (t % (n + 1)) (gt cells t)) else none) m (openL n) = some L ∧ L.length = 81 ∧
      ∀ p q, p ≤ n → q ≤ n → gt L (9 * p + q) = if p * (n + 1) + q < m then (if gt cells (p * (n + 1) + q) = INF then gt (openL n) (9 * p + q) else mn (gt (openL n) (9 * p + q)) (gt cells (p * (n + 1) + q))) else gt (openL n) (9 * p + q)
  | 0, _, _ => ⟨_, rfl, openL_length n, fun p q _ _ => by rw [if_neg (by omega)]⟩
  | m + 1, h1, h2 => by
    obtain ⟨L, e, hl, hc⟩ := ofL_form hn cells hr m (by omega) (Nat.le_of_succ_le h2)
    have hright : rightB (gt cells m) = true := by
      refine hr _ ?_
      have : gt cells m = cells[m] := by unfold gt; rw [List.getD_eq_getElem?_getD, List.getElem?_eq_getElem (by omega)]; rfl
      rw [this]; exact List.getElem_mem _
    have hlt : m / (n + 1) ≤ n := by
      have : m / (n + 1) < n + 1 := Nat.div_lt_of_lt_mul (Nat.lt_of_lt_of_le (Nat.lt_succ_self m) h2)
      omega
    have hmd : m % (n + 1) ≤ n := Nat.le_of_lt_succ (Nat.mod_lt m (Nat.succ_pos n))
    refine ⟨keepL L (m / (n + 1)) (m % (n + 1)) (gt cells m), by rw [lpO_succ, e]; show (if rightB (gt cells m) then _ else _) = _; rw [if_pos hright], by rw [keepL_length, hl], fun p q hp hq => ?_⟩
    have hpq : p * (n + 1) + q = m ↔ p = m / (n + 1) ∧ q = m % (n + 1) := by
      constructor
      · rintro rfl
        rw [Nat.add_comm, Nat.add_mul_div_right _ _ (Nat.succ_pos n), Nat.div_eq_of_lt (by omega), Nat.add_mul_mod_self_right, Nat.mod_eq_of_lt (by omega)]
        exact ⟨by omega, rfl⟩
      · rintro ⟨h3, h4⟩
        rw [h3, h4]; exact Nat.div_add_mod' m (n + 1)
    have hcc := hc p q hp hq
    unfold keepL
    by_cases hI : gt cells m = INF
    · rw [if_pos hI, hcc]
      by_cases he : p * (n + 1) + q = m
      · rw [he, if_neg (by omega), if_pos (by omega), if_pos hI]
      · have key : (p * (n + 1) + q < m + 1) ↔ (p * (n + 1) + q < m) := ⟨fun h => Nat.lt_of_le_of_ne (Nat.le_of_lt_succ h) he, fun h => Nat.lt_succ_of_lt h⟩
        by_cases hlt2 : p * (n + 1) + q < m
        · rw [if_pos hlt2, if_pos (key.2 hlt2)]
        · rw [if_neg hlt2, if_neg (fun h => hlt2 (key.1 h))]
    · rw [if_neg hI, gt_st_cell _ _ _ _ _ _ hl (by omega) (by omega) (by omega)]
      by_cases he : p * (n + 1) + q = m
      · obtain ⟨h3, h4⟩ := hpq.1 he
        rw [if_pos ⟨h3, h4⟩, ← h3, ← h4, hcc, he, if_neg (by omega), if_pos (by omega), if_neg hI]
      · rw [if_neg (fun h => he (hpq.2 h)), hcc]
        have key : (p * (n + 1) + q < m + 1) ↔ (p * (n + 1) + q < m) := ⟨fun h => Nat.lt_of_le_of_ne (Nat.le_of_lt_succ h) he, fun h => Nat.lt_succ_of_lt h⟩
        by_cases hlt2 : p * (n + 1) + q < m
        · rw [if_pos hlt2, if_pos (key.2 hlt2)]
        · rw [if_neg hlt2, if_neg (fun h => hlt2 (key.1 h))]
/-- A cell as Of's matrix holds it. -/
def nn (c : Int) : Int := if c = INF then NONE else c
theorem nn_none {c : Int} (h : c = INF ∨ (-536870912 ≤ c ∧ c ≤ 536870913)) : nn c ≠ NONE ↔ c ≠ INF := by
  unfold nn
  split
  · rename_i e; exact ⟨fun h => absurd rfl h, fun h => absurd e h⟩
  · rename_i e; exact ⟨fun _ => e, fun _ => by unfold NONE; omega⟩
theorem nn_fin {c : Int} (h : c ≠ INF) : nn c = c := by unfold nn; rw [if_neg h]
theorem ofL_zone {n : Nat} (hn : n ≤ 8) {cells : List Int} {M : Nat → Nat → Int} (hl : cells.length = (n + 1) * (n + 1)) (hc : ∀ p q, p ≤ n → q ≤ n → gt cells (p * (n + 1) + q) = M p q)
    (hr : ∀ p q, p ≤ n → q ≤ n → M p q = INF ∨ (-536870912 ≤ M p q ∧ M p q ≤ 536870913)) (hd : ∀ p, p ≤ n → M p p ≤ 1) (h0 : ∀ q, q ≤ n → M 0 q ≤ 1) :
    ∃ L, ofL n cells = some L ∧ L.length = 81 ∧ ∀ p q, p ≤ n → q ≤ n → gt L (9 * p + q) = nn (M p q) := by
  have hright : ∀ x ∈ cells, rightB x = true := fun x hx => by
    obtain ⟨t, ht, e⟩ := List.mem_iff_getElem.1 hx
    have h1 : t / (n + 1) ≤ n := by
      have : t / (n + 1) < n + 1 := Nat.div_lt_of_lt_mul (by rw [← hl]; exact ht)
      omega
    have h2 : t % (n + 1) ≤ n := Nat.le_of_lt_succ (Nat.mod_lt t (Nat.succ_pos n))
    have h3 := hc _ _ h1 h2
    rw [Nat.div_add_mod' t (n + 1)] at h3
    have h4 : gt cells t = x := by unfold gt; rw [List.getD_eq_getElem?_getD, List.getElem?_eq_getElem ht, e]; rfl
    rw [← h4, h3]
    exact decide_eq_true (hr _ _ h1 h2)
  obtain ⟨L, e, h1, h2⟩ := ofL_form hn cells hright cells.length (Nat.le_refl _) (Nat.le_of_eq hl)
  refine ⟨L, e, h1, fun p q hp hq => ?_⟩
  have hlt : p * (n + 1) + q < cells.length := by
    rw [hl]
    have h3 : (p + 1) * (n + 1) ≤ (n + 1) * (n + 1) := Nat.mul_le_mul_right _ (by omega)
    rw [Nat.succ_mul] at h3
    exact Nat.lt_of_lt_of_le (Nat.add_lt_add_left (by omega) _) h3
  rw [h2 p q hp hq, if_pos hlt, hc p q hp hq, open_form n hn p q (by omega), if_pos (show p ≤ n ∧ q ≤ n from ⟨hp, hq⟩)]
  have hrr := hr p q hp hq
  unfold nn
  by_cases hI : M p q = INF
  · rw [if_pos hI, if_pos hI]
    by_cases hz : p = q ∨ p = 0
    · exfalso
      rcases hz with hz | hz
      · subst hz; have := hd p hp; rw [hI] at this; exact absurd this (by decide)
      · subst hz; have := h0 q hq; rw [hI] at this; exact absurd this (by decide)
    · rw [if_neg hz]
  · rw [if_neg hI, if_neg hI]
    by_cases hz : p = q ∨ p = 0
    · rw [if_pos hz]
      have : M p q ≤ 1 := by
        rcases hz with hz | hz
        · subst hz; exact hd p hp
        · subst hz; exact h0 q hq
      unfold mn; split <;> omega
    · rw [if_neg hz]
      unfold mn NONE
      rw [if_pos (by omega)]

theorem of_total {n : Nat} {M : Nat → Nat → Int} {cells : List Int} {V : Nat → Int} {T : Nat → Nat → Int} {F : Nat → Nat → Prop} (hn : n ≤ 8) (hl : cells.length = (n + 1) * (n + 1))
    (hc : ∀ p q, p ≤ n → q ≤ n → gt cells (p * (n + 1) + q) = M p q) (hr : ∀ p q, p ≤ n → q ≤ n → M p q = INF ∨ (-536870912 ≤ M p q ∧ M p q ≤ 536870913))
    (hd : ∀ p, p ≤ n → M p p ≤ 1) (h0 : ∀ q, q ≤ n → M 0 q ≤ 1) (hV : ∀ p q, p ≤ n → q ≤ n → M p q ≠ INF → Kf (M p q) (V p - V q))
    (hV2 : ∀ p q, p ≤ n → q ≤ n → -3000000000 ≤ V p - V q) (hT : ∀ p q, p ≤ n → q ≤ n → T p q ≤ 268435456)
    (hF : ∀ p k q, p ≤ n → k ≤ n → q ≤ n → F p k → F k q → F p q) (hF1 : ∀ p q, p ≤ n → q ≤ n → M p q ≠ INF → F p q)
    (hA : ∀ A : Nat → Nat → Int, (∀ p q, p ≤ n → q ≤ n → M p q ≠ INF → A p q ≠ NONE ∧ A p q ≤ M p q) →
      (∀ p k q, p ≤ n → k ≤ n → q ≤ n → A p k ≠ NONE → A k q ≠ NONE → A p q ≤ plus2 (A p k) (A k q)) → ∀ p q, p ≤ n → q ≤ n → F p q → A p q / 2 ≤ T p q) :
    ∃ Z, ofZ n cells = .ok Z ∧ ZCl n Z ∧ (∀ p q, p ≤ n → q ≤ n → M p q ≠ INF → cellN Z p q ≠ INF ∧ cellN Z p q ≤ M p q) ∧
      (∀ p q, p ≤ n → q ≤ n → cellN Z p q ≠ INF → cellN Z p q / 2 ≤ T p q ∧ Kf (cellN Z p q) (V p - V q)) := by
  obtain ⟨L, e, hLl, hLc⟩ := ofL_zone hn hl hc hr hd h0
  have hS := ofL_start n hn cells cells.length L e
  have hfin : ∀ p q, p ≤ n → q ≤ n → (gt L (9 * p + q) ≠ NONE ↔ M p q ≠ INF) := fun p q hp hq => by rw [hLc p q hp hq]; exact nn_none (hr p q hp hq)
  have heq : ∀ p q, p ≤ n → q ≤ n → M p q ≠ INF → gt L (9 * p + q) = M p q := fun p q hp hq h => by rw [hLc p q hp hq, nn_fin h]
  have hwk : ∀ p q c, Wk n L p q c → F p q := fun p q c hw => by
    have : p ≤ n ∧ q ≤ n ∧ F p q := by
      induction hw with
      | one hp hq e hn => exact ⟨hp, hq, hF1 _ _ hp hq ((hfin _ _ hp hq).1 (by rw [e]; exact hn))⟩
      | cons hp hk e hn _ ih => exact ⟨hp, ih.2.1, hF _ _ _ hp hk ih.2.1 (hF1 _ _ hp hk ((hfin _ _ hp hk).1 (by rw [e]; exact hn))) ih.2.2⟩
    exact this.2.2
  obtain ⟨Z, z1, z2, z3, z4⟩ := zone_total (T := T) hn hS (fun j hj => by
      have h1 := heq 0 j (by omega) hj (fun h => by have := h0 j hj; rw [h] at this; exact absurd this (by decide))
      rw [show 9 * 0 + j = j by omega] at h1
      rw [h1]; exact h0 j hj) (V := V) (fun p q hp hq hne => by
      have h1 := (hfin p q hp hq).1 hne
      rw [heq p q hp hq h1]; exact hV p q hp hq h1) hV2 hT (fun A hh p q hp hq hne => by
      refine hA (fun p q => gt A (9 * p + q)) (fun p q hp hq hM => ?_) (fun p k q hp hk hq h1 h2 => hh.tri p k q hp (by omega) hk hq h1 h2) p q hp hq (hwk _ _ _ (hh.wk p q hp hq hne))
      have h1 := hh.le p q hp hq
      rw [heq p q hp hq hM] at h1
      refine ⟨fun h => ?_, h1⟩
      have h2 := (hr p q hp hq).resolve_left hM
      have h3 : gt A (9 * p + q) = NONE := h
      rw [h3] at h1; unfold NONE at h1; omega)
  refine ⟨Z, ?_, z2, fun p q hp hq hM => ?_, z4⟩
  · unfold ofZ
    have hfew : fewB (n : Int) = true := by unfold fewB; exact decide_eq_true ⟨by omega, by omega⟩
    rw [hfew, if_neg (by decide), if_neg (by rw [hl]; simp), Int.toNat_natCast, e]
    exact z1
  · have h1 := z3 p q hp hq ((hfin p q hp hq).2 hM)
    rw [heq p q hp hq hM] at h1
    exact h1
end Go.Proofs.Ytapfihlgemejiaa
