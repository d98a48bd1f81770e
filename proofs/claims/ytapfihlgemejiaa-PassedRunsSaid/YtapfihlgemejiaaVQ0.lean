/- Plain: a matrix as one dense list, as the document's package keeps it; the document's closing is the program's. | Plain: in a round that looks at no diagonal the cells grow no more than eleven times. -/
import Derived.Test.YtapfihlgemejiaaVC0
import Derived.Test.YtapfihlgemejiaaVP0
namespace Go.Proofs.Ytapfihlgemejiaa
/-- The cells of n clocks, row by row. -/
def dense (n : Nat) (L : List Int) : List Int := cellsOf ⟨n, L⟩
section
variable {n : Nat} {L M : List Int}
theorem dense_length (n : Nat) (L : List Int) : (dense n L).length = (n + 1) * (n + 1) := rowsTo_length _ _
theorem dense_get {i j : Nat} (hi : i ≤ n) (hj : j ≤ n) : (dense n L)[i * (n + 1) + j]? = some (gt L (9 * i + j)) := cellsOf_get ⟨n, L⟩ hi hj
theorem dense_gt {i j : Nat} (hi : i ≤ n) (hj : j ≤ n) : gt (dense n L) (i * (n + 1) + j) = gt L (9 * i + j) := by
  unfold gt
  rw [List.getD_eq_getElem?_getD, dense_get hi hj]; rfl
theorem split_at {n t : Nat} (h : t < (n + 1) * (n + 1)) : t / (n + 1) ≤ n ∧ t % (n + 1) ≤ n ∧ t = t / (n + 1) * (n + 1) + t % (n + 1) := by
  have h1 := Nat.div_lt_of_lt_mul h
  have h2 : t % (n + 1) < n + 1 := Nat.mod_lt t (Nat.succ_pos n)
  have h3 := Nat.div_add_mod t (n + 1)
  rw [Nat.mul_comm] at h3
  exact ⟨Nat.lt_succ_iff.1 h1, Nat.lt_succ_iff.1 h2, h3.symm⟩
theorem at_lt {i j : Nat} (hi : i ≤ n) (hj : j ≤ n) : i * (n + 1) + j < (n + 1) * (n + 1) := by
  have : i * (n + 1) ≤ n * (n + 1) := Nat.mul_le_mul_right _ hi
  rw [Nat.succ_mul]; omega
theorem at_inj {i j p q : Nat} (hj : j ≤ n) (hq : q ≤ n) (h : i * (n + 1) + j = p * (n + 1) + q) : i = p ∧ j = q := by
  have e : ∀ a b, b ≤ n → (a * (n + 1) + b) / (n + 1) = a := fun a b hb => by
    rw [Nat.mul_comm, Nat.mul_add_div (Nat.succ_pos n), Nat.div_eq_of_lt (by omega), Nat.add_zero]
  have h1 := e i j hj
  rw [h, e p q hq] at h1
  subst h1
  exact ⟨rfl, by omega⟩
theorem dense_ext (h : ∀ i j, i ≤ n → j ≤ n → gt L (9 * i + j) = gt M (9 * i + j)) : dense n L = dense n M := by
  apply List.ext_getElem? 
  intro t
  by_cases ht : t < (n + 1) * (n + 1)
  · obtain ⟨h1, h2, h3⟩ := split_at ht
    rw [h3, dense_get h1 h2, dense_get h1 h2, h _ _ h1 h2]
  · rw [List.getElem?_eq_none (by rw [dense_length]; omega), List.getElem?_eq_none (by rw [dense_length]; omega)]
theorem dense_set (hn : n ≤ 8) (hL : L.length = 81) {i j : Nat} (hi : i ≤ n) (hj : j ≤ n) (v : Int) : (dense n L).set (i * (n + 1) + j) v = dense n (st L (9 * i + j) v) := by
  apply List.ext_getElem? 
  intro t
  by_cases ht : t < (n + 1) * (n + 1)
  · obtain ⟨h1, h2, h3⟩ := split_at ht
    generalize t / (n + 1) = p at *
    generalize t % (n + 1) = q at *
    subst h3
    rw [dense_get h1 h2, List.getElem?_set, dense_length, dense_get h1 h2, gt_st _ _ _ _ (by omega)]
    by_cases e : i * (n + 1) + j = p * (n + 1) + q
    · obtain ⟨rfl, rfl⟩ := at_inj hj h2 e
      simp [at_lt hi hj]
    · rw [if_neg e, if_neg (by rintro e2; exact e (by have : p = i ∧ q = j := by omega
                                                      rw [this.1, this.2]))]
  · rw [List.getElem?_eq_none (by rw [List.length_set, dense_length]; omega), List.getElem?_eq_none (by rw [dense_length]; omega)]
/-- A dense list laid out in rows of nine. -/
def spread (n : Nat) (c : List Int) : List Int := (List.range 81).map fun t => if t / 9 ≤ n ∧ t % 9 ≤ n then gt c (t / 9 * (n + 1) + t % 9) else 0
theorem spread_length (n : Nat) (c : List Int) : (spread n c).length = 81 := by simp [spread]
theorem spread_gt {c : List Int} (hn : n ≤ 8) {i j : Nat} (hi : i ≤ n) (hj : j ≤ n) : gt (spread n c) (9 * i + j) = gt c (i * (n + 1) + j) := by
  unfold spread
  rw [gt, List.getD_eq_getElem?_getD, List.getElem?_map, List.getElem?_range (by omega)]
  simp only [Option.map_some, Option.getD_some]
  rw [show (9 * i + j) / 9 = i by omega, show (9 * i + j) % 9 = j by omega, if_pos ⟨hi, hj⟩]
theorem spread_out {c : List Int} {i j : Nat} (hi : i ≤ 8) (hj : j ≤ 8) (h : ¬ (i ≤ n ∧ j ≤ n)) : gt (spread n c) (9 * i + j) = 0 := by
  unfold spread
  rw [gt, List.getD_eq_getElem?_getD, List.getElem?_map, List.getElem?_range (by omega)]
  simp only [Option.map_some, Option.getD_some]
  rw [show (9 * i + j) / 9 = i by omega, show (9 * i + j) % 9 = j by omega, if_neg h]
theorem dense_spread {c : List Int} (hn : n ≤ 8) (hc : c.length = (n + 1) * (n + 1)) : dense n (spread n c) = c := by
  apply List.ext_getElem? 
  intro t
  by_cases ht : t < (n + 1) * (n + 1)
  · obtain ⟨h1, h2, h3⟩ := split_at ht
    rw [h3, dense_get h1 h2, spread_gt hn h1 h2, ← h3]
    unfold gt
    rw [List.getD_eq_getElem?_getD, List.getElem?_eq_getElem (by omega)]; rfl
  · rw [List.getElem?_eq_none (by rw [dense_length]; omega), List.getElem?_eq_none (by omega)]
/-- All rows of a round, no diagonal looked at. -/
def roundQ (n k : Nat) (L : List Int) : List Int := lp (fun i L => rowL n k i L) (n + 1) L
theorem roundQ_length (n k : Nat) (L : List Int) : (roundQ n k L).length = L.length := lp_length _ (fun i L => rowL_length n k i L) _ _
/-- The first rows of a round. -/
theorem lpRow_length (n k m : Nat) (L : List Int) : (lp (fun i L => rowL n k i L) m L).length = L.length := lp_length _ (fun i L => rowL_length n k i L) _ _
theorem rowL_other (n k : Nat) (hn : n ≤ 8) {i p : Nat} (hip : i ≠ p) (hp : p ≤ 8) (hL : L.length = 81) (hi : i ≤ n) : gt (rowL n k i L) (10 * p) = gt L (10 * p) := by
  have : ∀ m, m ≤ n + 1 → gt (lp (fun j L => cellL k i j L) m L) (10 * p) = gt L (10 * p) ∧ (lp (fun j L => cellL k i j L) m L).length = 81 := fun m => by
    induction m with
    | zero => exact fun _ => ⟨rfl, hL⟩
    | succ m ih =>
      intro hm
      obtain ⟨h1, h2⟩ := ih (by omega)
      rw [lp_succ]
      refine ⟨?_, by unfold cellL; rw [st_length]; exact h2⟩
      show gt (cellL k i m _) _ = _
      have h2 : (lp (fun j L => cellL k i j L) m L).length = 81 := h2
      unfold cellL at h1 h2 ⊢
      rw [gt_st _ _ _ _ (by rw [h2]; omega), if_neg (by omega)]
      exact h1
  exact (this (n + 1) (Nat.le_refl _)).1
/-- A round that looks at each diagonal behind its row, and one that looks at all of them at the end. -/
theorem round_check (n k : Nat) (hn : n ≤ 8) (hL : L.length = 81) : ∀ m, m ≤ n + 1 →
    ((∀ i, i < m → ¬ gt (lp (fun i L => rowL n k i L) m L) (10 * i) < 1) → lpO (fun i L => rowO n k i L) m L = some (lp (fun i L => rowL n k i L) m L)) ∧
    ((∃ i, i < m ∧ gt (lp (fun i L => rowL n k i L) m L) (10 * i) < 1) → lpO (fun i L => rowO n k i L) m L = none)
  | 0, _ => ⟨fun _ => rfl, fun ⟨i, hi, _⟩ => absurd hi (Nat.not_lt_zero _)⟩
  | m + 1, hm => by
    obtain ⟨h1, h2⟩ := round_check n k hn hL m (by omega)
    have hoth : ∀ i, i < m → gt (lp (fun i L => rowL n k i L) (m + 1) L) (10 * i) = gt (lp (fun i L => rowL n k i L) m L) (10 * i) := fun i hi => by
      rw [lp_succ, rowL_other n k hn (by omega) (by omega) (by rw [lpRow_length]; exact hL) (by omega)]
    constructor
    · intro h
      rw [lpO_succ, h1 (fun i hi => by rw [← hoth i hi]; exact h i (by omega))]
      have := h m (by omega)
      rw [lp_succ] at this ⊢
      show rowO n k m _ = _
      unfold rowO
      rw [if_neg this]
    · rintro ⟨i, hi, h⟩
      by_cases e : ∃ p, p < m ∧ gt (lp (fun i L => rowL n k i L) m L) (10 * p) < 1
      · rw [lpO_succ, h2 e]; rfl
      · have hall : ∀ p, p < m → ¬ gt (lp (fun i L => rowL n k i L) m L) (10 * p) < 1 := fun p hp hlt => e ⟨p, hp, hlt⟩
        have him : i = m := by
          by_cases e2 : i < m
          · rw [hoth i e2] at h; exact absurd h (hall i e2)
          · omega
        subst him
        rw [lpO_succ, h1 hall]
        rw [lp_succ] at h
        show rowO n k i _ = _
        unfold rowO
        rw [if_pos h]
/-- What a cell is told as, and that it may be told. -/
def outV (x : Int) : Int := if x = NONE then INF else x
def outOk (x : Int) : Prop := x = NONE ∨ ¬ (x < -536870912 ∨ 536870913 < x)
theorem outL_some {i j : Nat} {Z Z' : List Int} (h : outL L i j Z = some Z') : outOk (gt L (9 * i + j)) ∧ Z' = st Z (9 * i + j) (outV (gt L (9 * i + j))) := by
  unfold outL at h
  unfold outOk outV
  split at h
  · rename_i e; injection h with h; exact ⟨.inl e, by rw [if_pos e]; exact h.symm⟩
  · rename_i e
    split at h
    · cases h
    · rename_i e2; injection h with h; exact ⟨.inr e2, by rw [if_neg e]; exact h.symm⟩
theorem zoneL_cells {A Z : List Int} (hn : n ≤ 8) (h : zoneL n A = some Z) : ∀ p q, p ≤ n → q ≤ n → outOk (gt A (9 * p + q)) ∧ gt Z (9 * p + q) = outV (gt A (9 * p + q)) := by
  have row : ∀ i, i ≤ n → ∀ m, m ≤ n + 1 → ∀ X Y : List Int, X.length = 81 → lpO (fun j Z => outL A i j Z) m X = some Y → Y.length = 81 ∧ (∀ q, q < m → outOk (gt A (9 * i + q)) ∧ gt Y (9 * i + q) = outV (gt A (9 * i + q))) ∧ (∀ t, t < 9 * i → gt Y t = gt X t) := by
    intro i hi m
    induction m with
    | zero => intro _ X Y hX he; injection he with he; subst he; exact ⟨hX, fun q hq => absurd hq (Nat.not_lt_zero _), fun _ _ => rfl⟩
    | succ m ih =>
      intro hm X Y hX he
      rw [lpO_succ] at he
      cases hq : lpO (fun j Z => outL A i j Z) m X with
      | none => rw [hq] at he; cases he
      | some W =>
        rw [hq] at he
        obtain ⟨a, b, c⟩ := ih (by omega) X W hX hq
        obtain ⟨d, e⟩ := outL_some (show outL A i m W = some Y from he)
        subst e
        refine ⟨by rw [st_length]; exact a, fun q hq2 => ?_, fun t ht => ?_⟩
        · rw [gt_st _ _ _ _ (by omega)]
          by_cases e3 : q = m
          · subst e3; rw [if_pos rfl]; exact ⟨d, rfl⟩
          · rw [if_neg (by omega)]; exact b q (by omega)
        · rw [gt_st _ _ _ _ (by omega), if_neg (by omega)]; exact c t ht
  have all : ∀ m, m ≤ n + 1 → ∀ Y, lpO (fun i Z => lpO (fun j Z => outL A i j Z) (n + 1) Z) m zeros = some Y → Y.length = 81 ∧ ∀ p q, p < m → q ≤ n → outOk (gt A (9 * p + q)) ∧ gt Y (9 * p + q) = outV (gt A (9 * p + q)) := by
    intro m
    induction m with
    | zero => intro _ Y he; injection he with he; subst he; exact ⟨zeros_length, fun p q hp => absurd hp (Nat.not_lt_zero _)⟩
    | succ m ih =>
      intro hm Y he
      rw [lpO_succ] at he
      cases hq : lpO (fun i Z => lpO (fun j Z => outL A i j Z) (n + 1) Z) m zeros with
      | none => rw [hq] at he; cases he
      | some W =>
        rw [hq] at he
        obtain ⟨a, b⟩ := ih (by omega) W hq
        obtain ⟨c, d, e⟩ := row m (by omega) (n + 1) (Nat.le_refl _) W Y a he
        refine ⟨c, fun p q hp hq2 => ?_⟩
        by_cases e3 : p = m
        · subst e3; exact d q (by omega)
        · rw [e _ (by omega)]; exact b p q (by omega) hq2
  exact fun p q hp hq => (all (n + 1) (Nat.le_refl _) Z h).2 p q (by omega) hq
theorem dense_out {A Z : List Int} (hn : n ≤ 8) (h : zoneL n A = some Z) : dense n Z = (dense n A).map outV := by
  apply List.ext_getElem? 
  intro t
  by_cases ht : t < (n + 1) * (n + 1)
  · obtain ⟨h1, h2, h3⟩ := split_at ht
    rw [h3, List.getElem?_map, dense_get h1 h2, dense_get h1 h2, (zoneL_cells hn h _ _ h1 h2).2]; rfl
  · rw [List.getElem?_eq_none (by rw [dense_length]; omega), List.getElem?_eq_none (by rw [List.length_map, dense_length]; omega)]
end
end Go.Proofs.Ytapfihlgemejiaa
namespace Go.Proofs.Ytapfihlgemejiaa
/-- No bound, or one that is not great. -/
def Lt (c x : Int) : Prop := x = NONE ∨ (-c ≤ x ∧ x ≤ c)
theorem Lt.mono {c d x : Int} (h : Lt c x) (hcd : c ≤ d) : Lt d x := h.imp id (fun h => by omega)
theorem Lt.sum {c d x y e : Int} (h : Lt c x) (h' : Lt d y) (he : c + d + 1 ≤ e) : Lt e (sumI x y) := by
  unfold sumI
  split
  · exact .inl rfl
  · rename_i hn
    have hx := h.resolve_left (fun e => hn (.inl e))
    have hy := h'.resolve_left (fun e => hn (.inr e))
    split <;> exact .inr (by omega)
theorem Lt.mn {e x y : Int} (h : Lt e x) (h' : Lt e y) : Lt e (mn x y) := by
  unfold Ytapfihlgemejiaa.mn
  split <;> assumption
/-- How great a cell may be in round k, if no cell was greater than B. -/
def cls (B : Int) (k p q : Nat) : Int := if p = k ∧ q = k then 3 * B else if p = k ∨ q = k then 5 * B else 11 * B
/-- In round k, ahead of cell (i, j). -/
def InRound (n k : Nat) (B : Int) (i j : Nat) (L : List Int) : Prop := L.length = 81 ∧ ∀ p q, p ≤ n → q ≤ n → Lt (cls B k p q) (gt L (9 * p + q)) ∧ ((i < p ∨ (i = p ∧ j ≤ q)) → Lt B (gt L (9 * p + q)))
def AllLt (n : Nat) (B : Int) (L : List Int) : Prop := L.length = 81 ∧ ∀ p q, p ≤ n → q ≤ n → Lt B (gt L (9 * p + q))
section
variable {n k i j : Nat} {B : Int} {L : List Int}
theorem cls_ge (hB : 1 ≤ B) (k p q : Nat) : B ≤ cls B k p q ∧ cls B k p q ≤ 11 * B := by
  unfold cls
  split
  · omega
  · split <;> omega
theorem AllLt.start (hB : 1 ≤ B) (h : AllLt n B L) : InRound n k B 0 0 L := ⟨h.1, fun p q hp hq => ⟨(h.2 p q hp hq).mono (cls_ge hB k p q).1, fun _ => h.2 p q hp hq⟩⟩
theorem InRound.all (hB : 1 ≤ B) (h : InRound n k B i j L) : AllLt n (11 * B) L := ⟨h.1, fun p q hp hq => (h.2 p q hp hq).1.mono (cls_ge hB k p q).2⟩
theorem InRound.cell (hn : n ≤ 8) (hB : 1 ≤ B) (hk : k ≤ n) (hi : i ≤ n) (hj : j ≤ n) (h : InRound n k B i j L) : InRound n k B i (j + 1) (cellL k i j L) := by
  unfold cellL
  refine ⟨by rw [st_length]; exact h.1, fun p q hp hq => ?_⟩
  rw [gt_st _ _ _ _ (by rw [h.1]; omega)]
  by_cases e : 9 * p + q = 9 * i + j
  · have : p = i ∧ q = j := by omega
    obtain ⟨rfl, rfl⟩ := this
    rw [if_pos rfl]
    refine ⟨?_, fun hlt => by omega⟩
    obtain ⟨_, hold⟩ := h.2 p q hp hq
    have hold := hold (.inr ⟨rfl, Nat.le_refl _⟩)
    refine Lt.mn (hold.mono (cls_ge hB k p q).1) ?_
    by_cases e1 : p = k
    · subst e1
      by_cases e2 : q = p
      · subst e2
        refine hold.sum hold ?_
        unfold cls; rw [if_pos ⟨rfl, rfl⟩]; omega
      · refine (h.2 p p hp hp).1.sum hold ?_
        have c1 : cls B p p q = 5 * B := by unfold cls; rw [if_neg (by omega), if_pos (.inl rfl)]
        have c2 : cls B p p p = 3 * B := by unfold cls; rw [if_pos ⟨rfl, rfl⟩]
        rw [c1, c2]; omega
    · by_cases e2 : q = k
      · subst e2
        refine hold.sum (h.2 q q hq hq).1 ?_
        have c1 : cls B q p q = 5 * B := by unfold cls; rw [if_neg (by omega), if_pos (.inr rfl)]
        have c2 : cls B q q q = 3 * B := by unfold cls; rw [if_pos ⟨rfl, rfl⟩]
        rw [c1, c2]; omega
      · refine (h.2 p k hp hk).1.sum (h.2 k q hk hq).1 ?_
        have c1 : cls B k p q = 11 * B := by unfold cls; rw [if_neg (by omega), if_neg (by omega)]
        have c2 : cls B k p k = 5 * B := by unfold cls; rw [if_neg (by omega), if_pos (.inr rfl)]
        have c3 : cls B k k q = 5 * B := by unfold cls; rw [if_neg (by omega), if_pos (.inl rfl)]
        rw [c1, c2, c3]; omega
  · rw [if_neg e]
    exact ⟨(h.2 p q hp hq).1, fun hlt => (h.2 p q hp hq).2 (by omega)⟩
theorem InRound.cells (hn : n ≤ 8) (hB : 1 ≤ B) (hk : k ≤ n) (hi : i ≤ n) (h : InRound n k B i 0 L) : ∀ m, m ≤ n + 1 → InRound n k B i m (lp (fun j L => cellL k i j L) m L)
  | 0, _ => h
  | m + 1, hm => InRound.cell hn hB hk hi (by omega) (h.cells hn hB hk hi m (by omega))
theorem InRound.row (h : InRound n k B i (n + 1) L) : InRound n k B (i + 1) 0 L := ⟨h.1, fun p q hp hq => ⟨(h.2 p q hp hq).1, fun hlt => (h.2 p q hp hq).2 (by omega)⟩⟩
theorem AllLt.rows (hn : n ≤ 8) (hB : 1 ≤ B) (hk : k ≤ n) (h : AllLt n B L) : ∀ m, m ≤ n + 1 → InRound n k B m 0 (lp (fun i L => rowL n k i L) m L)
  | 0, _ => h.start hB
  | m + 1, hm => ((h.rows hn hB hk m (by omega)).cells hn hB hk (by omega) (n + 1) (Nat.le_refl _)).row
theorem AllLt.round (hn : n ≤ 8) (hB : 1 ≤ B) (hk : k ≤ n) (h : AllLt n B L) : AllLt n (11 * B) (roundQ n k L) := (h.rows hn hB hk (n + 1) (Nat.le_refl _)).all hB
def pow11 : Nat → Int
  | 0 => 1
  | m + 1 => 11 * pow11 m
theorem pow11_pos : ∀ m, 1 ≤ pow11 m
  | 0 => Int.le_refl _
  | m + 1 => by have := pow11_pos m; unfold pow11; omega
theorem pow11_le : ∀ {m : Nat}, m ≤ 9 → pow11 m ≤ 2357947691 := by decide
theorem AllLt.rounds (hn : n ≤ 8) (h : AllLt n 536870913 L) : ∀ m, m ≤ n + 1 → AllLt n (536870913 * pow11 m) (lp (roundQ n) m L)
  | 0, _ => by show AllLt n (536870913 * 1) L; rw [Int.mul_one]; exact h
  | m + 1, hm => by
    have h1 := (h.rounds hn m (by omega)).round (k := m) hn (by have := pow11_pos m; omega) (by omega)
    have e : pow11 (m + 1) = 11 * pow11 m := rfl
    rw [show 536870913 * pow11 (m + 1) = 11 * (536870913 * pow11 m) by rw [e]; omega]
    exact h1
/-- Wherever the document's closing stands: no cell is great. -/
theorem AllLt.at_ (hn : n ≤ 8) (h : AllLt n 536870913 L) (hk : k ≤ n) (hi : i ≤ n) (hj : j ≤ n + 1) : AllLt n 2000000000000000000 (lp (fun j L => cellL k i j L) j (lp (fun i L => rowL n k i L) i (lp (roundQ n) k L))) := by
  have hB : 1 ≤ 536870913 * pow11 k := by have := pow11_pos k; omega
  have h1 := (((h.rounds hn k (by omega)).rows hn hB hk i (by omega)).cells hn hB hk hi j hj).all hB
  refine ⟨h1.1, fun p q hp hq => (h1.2 p q hp hq).mono ?_⟩
  have h2 : pow11 (k + 1) ≤ 2357947691 := pow11_le (by omega)
  have h3 : pow11 (k + 1) = 11 * pow11 k := rfl
  omega
/-- So many rounds that found no diagonal below 1. -/
theorem rounds_ok {m : Nat} (hn : n ≤ 8) (hL : L.length = 81) (h : ∀ k, k < m → ∀ i, i ≤ n → ¬ gt (lp (roundQ n) (k + 1) L) (10 * i) < 1) (hm : m ≤ n + 1) : lpO (fun k L => lpO (fun i L => rowO n k i L) (n + 1) L) m L = some (lp (roundQ n) m L) := by
  induction m with
  | zero => rfl
  | succ m ih =>
    rw [lpO_succ, ih (fun k hk => h k (by omega)) (by omega)]
    have hl : (lp (roundQ n) m L).length = 81 := by rw [lp_length _ (fun k L => roundQ_length n k L)]; exact hL
    exact (round_check n m hn hl (n + 1) (Nat.le_refl _)).1 (fun i hi => h m (by omega) i (by omega))
theorem rounds_close (hn : n ≤ 8) (hL : L.length = 81) (h : ∀ k, k < n + 1 → ∀ i, i ≤ n → ¬ gt (lp (roundQ n) (k + 1) L) (10 * i) < 1) : closeL n L = some (lp (roundQ n) (n + 1) L) := rounds_ok hn hL h (Nat.le_refl _)
theorem rounds_stop {m : Nat} (hn : n ≤ 8) (hL : L.length = 81) (h : ∀ k, k < m → ∀ i, i ≤ n → ¬ gt (lp (roundQ n) (k + 1) L) (10 * i) < 1) (hm : m ≤ n) (hi : i ≤ n) (hlt : gt (lp (roundQ n) (m + 1) L) (10 * i) < 1) : closeL n L = none := by
  have h1 := rounds_ok hn hL h (by omega)
  have hl : (lp (roundQ n) m L).length = 81 := by rw [lp_length _ (fun k L => roundQ_length n k L)]; exact hL
  have h2 := (round_check n m hn hl (n + 1) (Nat.le_refl _)).2 ⟨i, by omega, hlt⟩
  have h3 : lpO (fun k L => lpO (fun i L => rowO n k i L) (n + 1) L) (m + 1) L = none := by rw [lpO_succ, h1]; exact h2
  exact lpO_none _ _ _ _ h3 (by omega)
end
end Go.Proofs.Ytapfihlgemejiaa
