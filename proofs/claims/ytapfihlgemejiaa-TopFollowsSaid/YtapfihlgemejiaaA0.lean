/- Plain functions that the walks over package dbm come to: counted loops, sums of wide bounds, the closing of a matrix of 9 times 9 cells. No program is named here. | Plain facts on closing a matrix: a round in place is a round at once; what is reckoned with stays small. | Plain zones: a number of clocks and 81 cells; which includes which. -/
-- Plain functions that the walks over package dbm come to: counted loops, sums of wide bounds, the closing of a matrix of 9 times 9 cells. No program is named here.
namespace Go.Proofs.Ytapfihlgemejiaa

/-- A counted loop: f 0, f 1, .., f (m - 1), one behind the other. -/
def lp {α : Type} (f : Nat → α → α) : Nat → α → α
  | 0, a => a
  | m + 1, a => f m (lp f m a)
/-- A counted loop that may end early. -/
def lpO {α : Type} (f : Nat → α → Option α) : Nat → α → Option α
  | 0, a => some a
  | m + 1, a => (lpO f m a).bind (f m)

theorem lp_succ {α : Type} (f : Nat → α → α) (m : Nat) (a : α) : lp f (m + 1) a = f m (lp f m a) := rfl
theorem lpO_succ {α : Type} (f : Nat → α → Option α) (m : Nat) (a : α) : lpO f (m + 1) a = (lpO f m a).bind (f m) := rfl
theorem lpO_none {α : Type} (f : Nat → α → Option α) (m n : Nat) (a : α) (h : lpO f m a = none) (hn : m ≤ n) : lpO f n a = none := by
  induction n with
  | zero => have : m = 0 := by omega
            subst this; exact h
  | succ n ih =>
    by_cases hmn : m = n + 1
    · subst hmn; exact h
    · rw [lpO_succ, ih (by omega)]; rfl

/-- A cell of a row of numbers. -/
def gt (L : List Int) (t : Nat) : Int := L.getD t 0
/-- The row with one cell turned. -/
def st (L : List Int) (t : Nat) (v : Int) : List Int := L.set t v
theorem st_length (L : List Int) (t : Nat) (v : Int) : (st L t v).length = L.length := by simp [st]
theorem gt_st (L : List Int) (t u : Nat) (v : Int) (h : t < L.length) : gt (st L t v) u = if u = t then v else gt L u := by
  unfold gt st
  simp only [List.getD_eq_getElem?_getD, List.getElem?_set]
  by_cases hu : t = u
  · subst hu; simp [h]
  · rw [if_neg hu, if_neg (fun e => hu e.symm)]

def NONE : Int := 4611686018427387904
def INF : Int := 2147483647
def zeros : List Int := List.replicate 81 0
theorem zeros_length : zeros.length = 81 := by decide
/-- The smaller one, as the program finds it. -/
def mn (a b : Int) : Int := if b < a then b else a
/-- The sum of two wide bounds. -/
def sumI (a b : Int) : Int := if a = NONE ∨ b = NONE then NONE else if a % 2 = 1 ∨ b % 2 = 1 then a + b - 1 else a + b

/-- open: all cells without a bound, but for what holds of all valuations. -/
def openC (i j : Nat) (L : List Int) : List Int := if i = j ∨ i = 0 then st (st L (9 * i + j) NONE) (9 * i + j) 1 else st L (9 * i + j) NONE
def openL (n : Nat) : List Int := lp (fun i L => lp (fun j L => openC i j L) (n + 1) L) (n + 1) zeros
def keepL (L : List Int) (i j : Nat) (b : Int) : List Int := if b = INF then L else st L (9 * i + j) (mn (gt L (9 * i + j)) b)
def cellL (k i j : Nat) (L : List Int) : List Int := st L (9 * i + j) (mn (gt L (9 * i + j)) (sumI (gt L (9 * i + k)) (gt L (9 * k + j))))
def rowL (n k i : Nat) (L : List Int) : List Int := lp (fun j L => cellL k i j L) (n + 1) L
def rowO (n k i : Nat) (L : List Int) : Option (List Int) := if gt (rowL n k i L) (10 * i) < 1 then none else some (rowL n k i L)
def closeL (n : Nat) (L : List Int) : Option (List Int) := lpO (fun k L => lpO (fun i L => rowO n k i L) (n + 1) L) (n + 1) L

def outL (L : List Int) (i j : Nat) (Z : List Int) : Option (List Int) :=
  if gt L (9 * i + j) = NONE then some (st Z (9 * i + j) INF)
  else if gt L (9 * i + j) < -536870912 ∨ 536870913 < gt L (9 * i + j) then none else some (st Z (9 * i + j) (gt L (9 * i + j)))
def zoneL (n : Nat) (L : List Int) : Option (List Int) := lpO (fun i Z => lpO (fun j Z => outL L i j Z) (n + 1) Z) (n + 1) zeros

/-- A zone's cells, or an error's number. -/
inductive ZR where
  | err (e : Int)
  | ok (Z : List Int)

def zoneOf (n : Nat) (L : List Int) : ZR :=
  match closeL n L with
  | none => .ok zeros
  | some L' => match zoneL n L' with
    | none => .err 10
    | some Z => .ok Z

def rightB (b : Int) : Bool := decide (b = INF ∨ (-536870912 ≤ b ∧ b ≤ 536870913))
def fewB (n : Int) : Bool := decide (0 ≤ n ∧ n ≤ 8)

/-- The bounds, row by row, laid over the open cells. -/
def ofL (n : Nat) (cells : List Int) : Option (List Int) :=
  lpO (fun t L => if rightB (gt cells t) then some (keepL L (t / (n + 1)) (t % (n + 1)) (gt cells t)) else none) cells.length (openL n)
def ofZ (n : Int) (cells : List Int) : ZR :=
  if fewB n = false then .err 12
  else if (cells.length : Int) ≠ (n + 1) * (n + 1) then .err 6
  else match ofL n.toNat cells with
    | none => .err 7
    | some L => zoneOf n.toNat L

/-- A bound of a difference. -/
structure Lim where
  i : Int
  j : Int
  b : Int
def limOk (n : Int) (x : Lim) : Bool := decide (0 ≤ x.i ∧ x.i ≤ n ∧ 0 ≤ x.j ∧ x.j ≤ n) && rightB x.b
def limL (n : Int) (l : List Lim) : Option (List Int) :=
  lpO (fun t L => if limOk n (l.getD t ⟨0, 0, 0⟩) then some (keepL L (l.getD t ⟨0, 0, 0⟩).i.toNat (l.getD t ⟨0, 0, 0⟩).j.toNat (l.getD t ⟨0, 0, 0⟩).b) else none) l.length (openL n.toNat)
def limZ (n : Int) (l : List Lim) : ZR :=
  if fewB n = false then .err 12
  else match limL n l with
    | none => .err 7
    | some L => zoneOf n.toNat L
def zeroZ (n : Int) : ZR :=
  if fewB n = false then .err 12 else zoneOf n.toNat (lp (fun i L => keepL L i 0 1) (n.toNat + 1) (openL n.toNat))

section lengths
theorem lp_length (f : Nat → List Int → List Int) (hf : ∀ i L, (f i L).length = L.length) (m : Nat) (L : List Int) : (lp f m L).length = L.length := by
  induction m with
  | zero => rfl
  | succ m ih => rw [lp_succ, hf, ih]
theorem lpO_length (f : Nat → List Int → Option (List Int)) (hf : ∀ i L L', f i L = some L' → L'.length = L.length) (m : Nat) (L L' : List Int) (h : lpO f m L = some L') : L'.length = L.length := by
  induction m generalizing L' with
  | zero => cases h; rfl
  | succ m ih =>
    rw [lpO_succ] at h
    cases hq : lpO f m L with
    | none => rw [hq] at h; cases h
    | some q => rw [hq] at h; rw [hf _ _ _ h, ih _ hq]
theorem openC_length (i j : Nat) (L : List Int) : (openC i j L).length = L.length := by unfold openC; split <;> simp [st_length]
theorem openL_length (n : Nat) : (openL n).length = 81 := by
  unfold openL
  rw [lp_length _ (fun i L => lp_length _ (fun j L => openC_length i j L) _ _), zeros_length]
theorem keepL_length (L : List Int) (i j : Nat) (b : Int) : (keepL L i j b).length = L.length := by unfold keepL; split <;> simp [st_length]
theorem cellL_length (k i j : Nat) (L : List Int) : (cellL k i j L).length = L.length := by unfold cellL; simp [st_length]
theorem rowL_length (n k i : Nat) (L : List Int) : (rowL n k i L).length = L.length := lp_length _ (fun j L => cellL_length k i j L) _ _
theorem rowO_length (n k i : Nat) (L L' : List Int) (h : rowO n k i L = some L') : L'.length = L.length := by
  unfold rowO at h; split at h
  · cases h
  · cases h; exact rowL_length _ _ _ _
theorem closeL_length (n : Nat) (L L' : List Int) (h : closeL n L = some L') : L'.length = L.length :=
  lpO_length _ (fun _ _ _ h1 => lpO_length _ (fun _ _ _ h2 => rowO_length _ _ _ _ _ h2) _ _ _ h1) _ _ _ h
theorem outL_length (L : List Int) (i j : Nat) (Z Z' : List Int) (h : outL L i j Z = some Z') : Z'.length = Z.length := by
  unfold outL at h
  split at h
  · cases h; simp [st_length]
  · split at h
    · cases h
    · cases h; simp [st_length]
theorem zoneL_length (n : Nat) (L Z : List Int) (h : zoneL n L = some Z) : Z.length = 81 := by
  rw [lpO_length _ (fun _ _ _ h1 => lpO_length _ (fun _ _ _ h2 => outL_length _ _ _ _ _ h2) _ _ _ h1) _ _ _ h, zeros_length]
theorem zoneOf_length (n : Nat) (L Z : List Int) (h : zoneOf n L = .ok Z) : Z.length = 81 := by
  unfold zoneOf at h
  split at h
  · cases h; exact zeros_length
  · split at h
    · cases h
    · rename_i hz; cases h; exact zoneL_length _ _ _ hz
end lengths

section sizes
/-- How far the cells of a matrix may lie from 0. -/
def Bd (B : Int) (L : List Int) : Prop := ∀ t, gt L t = NONE ∨ (-B ≤ gt L t ∧ gt L t ≤ B)

theorem Bd.st {B : Int} {L : List Int} (h : Bd B L) (t : Nat) (v : Int) (hv : v = NONE ∨ (-B ≤ v ∧ v ≤ B)) : Bd B (st L t v) := by
  intro u
  by_cases ht : t < L.length
  · rw [gt_st _ _ _ _ ht]; split
    · exact hv
    · exact h u
  · have : Go.Proofs.Ytapfihlgemejiaa.st L t v = L := by unfold Go.Proofs.Ytapfihlgemejiaa.st; exact List.set_eq_of_length_le (by omega)
    rw [this]; exact h u
theorem Bd.mono {B B' : Int} {L : List Int} (h : Bd B L) (hB : B ≤ B') : Bd B' L := fun t => by
  rcases h t with h | h
  · exact .inl h
  · exact .inr (by omega)
theorem mn_bd {B a b : Int} (ha : a = NONE ∨ (-B ≤ a ∧ a ≤ B)) (hb : b = NONE ∨ (-B ≤ b ∧ b ≤ B)) : mn a b = NONE ∨ (-B ≤ mn a b ∧ mn a b ≤ B) := by
  unfold mn; split
  · exact hb
  · exact ha
theorem sumI_bd {B a b : Int} (ha : a = NONE ∨ (-B ≤ a ∧ a ≤ B)) (hb : b = NONE ∨ (-B ≤ b ∧ b ≤ B)) : sumI a b = NONE ∨ (-(2 * B + 1) ≤ sumI a b ∧ sumI a b ≤ 2 * B + 1) := by
  unfold sumI
  split
  · exact .inl rfl
  · rename_i h
    have h1 : ¬ a = NONE := fun e => h (.inl e)
    have h2 : ¬ b = NONE := fun e => h (.inr e)
    rcases ha with ha | ha
    · exact absurd ha h1
    · rcases hb with hb | hb
      · exact absurd hb h2
      · right; split <;> omega
theorem zeros_bd : Bd 1 zeros := fun t => by
  right
  have : gt zeros t = 0 := by
    unfold gt zeros
    rw [List.getD_eq_getElem?_getD, List.getElem?_replicate]
    split <;> rfl
  rw [this]; omega
theorem lp_inv {α : Type} (P : α → Prop) (f : Nat → α → α) (m : Nat) (a : α) (h0 : P a) (hs : ∀ i a, i < m → P a → P (f i a)) : P (lp f m a) := by
  induction m with
  | zero => exact h0
  | succ m ih => exact hs m _ (by omega) (ih (fun i a hi h => hs i a (by omega) h))
theorem openL_bd (n : Nat) : Bd 1 (openL n) := by
  refine lp_inv (Bd 1) _ _ _ zeros_bd (fun i L _ h => lp_inv (Bd 1) _ _ _ h (fun j L _ h => ?_))
  unfold openC
  split
  · exact (h.st _ _ (.inl rfl)).st _ _ (.inr (by omega))
  · exact h.st _ _ (.inl rfl)
theorem keepL_bd {B : Int} {L : List Int} (h : Bd B L) (i j : Nat) (b : Int) (hb : b = INF ∨ (-B ≤ b ∧ b ≤ B)) : Bd B (keepL L i j b) := by
  unfold keepL
  split
  · exact h
  · rename_i hne
    refine h.st _ _ (mn_bd (h _) ?_)
    rcases hb with hb | hb
    · exact absurd hb hne
    · exact .inr hb
end sizes

/-- All that the closing reckons with stays small. -/
def Safe (n : Nat) (L : List Int) : Prop :=
  ∀ k, k ≤ n → ∀ L1, lpO (fun k L => lpO (fun i L => rowO n k i L) (n + 1) L) k L = some L1 → ∀ i, i ≤ n → ∀ L2, lpO (fun i L => rowO n k i L) i L1 = some L2 →
    ∀ j, j ≤ n → Bd 1152921504606846976 (lp (fun j L => cellL k i j L) j L2)
end Go.Proofs.Ytapfihlgemejiaa
-- Plain facts on closing a matrix: a round in place is a round at once; what is reckoned with stays small.
namespace Go.Proofs.Ytapfihlgemejiaa

theorem sumI_one_right {a : Int} : sumI a 1 = a := by
  unfold sumI NONE; split
  · omega
  · split <;> omega
theorem sumI_one_left {a : Int} : sumI 1 a = a := by
  unfold sumI NONE; split
  · omega
  · split <;> omega
theorem mn_self (a : Int) : mn a a = a := by unfold mn; split <;> rfl
theorem mn_le (a b : Int) : mn a b ≤ a := by unfold mn; split <;> omega
theorem mn_le' (a b : Int) : mn a b ≤ b := by unfold mn; split <;> omega

theorem gt_st_cell (L : List Int) (i j p q : Nat) (v : Int) (hL : L.length = 81) (hi : i < 9) (hj : j < 9) (hq : q < 9) :
    gt (st L (9 * i + j) v) (9 * p + q) = if p = i ∧ q = j then v else gt L (9 * p + q) := by
  rw [gt_st _ _ _ _ (by omega)]
  by_cases h : p = i ∧ q = j
  · rw [if_pos h, if_pos (by omega)]
  · rw [if_neg h, if_neg (by omega)]

/-- A row under way, where the cell (k, k) is AT MOST 0. -/
theorem row_part (n k i : Nat) (M : List Int) (hn : n ≤ 8) (hM : M.length = 81) (hi : i ≤ n) (hk : k ≤ n) (hkk : gt M (10 * k) = 1) :
    ∀ j, j ≤ n + 1 → ∀ p q, q < 9 → gt (lp (fun j L => cellL k i j L) j M) (9 * p + q) =
      if p = i ∧ q < j then mn (gt M (9 * i + q)) (sumI (gt M (9 * i + k)) (gt M (9 * k + q))) else gt M (9 * p + q) := by
  intro j
  induction j with
  | zero => intro _ p q _; simp [lp]
  | succ j ih =>
    intro hj p q hq
    have ih := ih (by omega)
    have hlen : (lp (fun j L => cellL k i j L) j M).length = 81 := by rw [lp_length _ (fun j L => cellL_length k i j L), hM]
    rw [lp_succ]
    generalize lp (fun j L => cellL k i j L) j M = N at *
    show gt (cellL k i j N) (9 * p + q) = _
    unfold cellL
    rw [gt_st_cell _ _ _ _ _ _ hlen (by omega) (by omega) hq]
    have e1 := ih i j (by omega)
    rw [if_neg (by omega)] at e1
    have e3 := ih k j (by omega)
    rw [if_neg (by omega)] at e3
    have e2 : gt N (9 * i + k) = gt M (9 * i + k) := by
      rw [ih i k (by omega)]
      split
      · rw [show 9 * k + k = 10 * k by omega, hkk, sumI_one_right, mn_self]
      · rfl
    rw [e1, e2, e3]
    by_cases h : p = i ∧ q = j
    · obtain ⟨rfl, rfl⟩ := h
      rw [if_pos ⟨rfl, rfl⟩, if_pos ⟨rfl, by omega⟩]
    · rw [if_neg h, ih p q hq]
      by_cases h2 : p = i ∧ q < j
      · rw [if_pos h2, if_pos ⟨h2.1, by omega⟩]
      · rw [if_neg h2, if_neg (by omega)]

/-- The rows before i, in the round of k. -/
theorem round_part (n k : Nat) (A : List Int) (hn : n ≤ 8) (hA : A.length = 81) (hk : k ≤ n) (hkk : gt A (10 * k) = 1) :
    ∀ i, i ≤ n + 1 → ∀ M, lpO (fun i L => rowO n k i L) i A = some M → (∀ p q, q < 9 → gt M (9 * p + q) =
      if p < i ∧ q ≤ n then mn (gt A (9 * p + q)) (sumI (gt A (9 * p + k)) (gt A (9 * k + q))) else gt A (9 * p + q)) ∧ ∀ p, p < i → 1 ≤ gt M (10 * p) := by
  intro i
  induction i with
  | zero => intro _ M h; cases h; exact ⟨fun p q _ => by simp, fun p h => by omega⟩
  | succ i ih =>
    intro hi M h
    rw [lpO_succ] at h
    cases hqe : lpO (fun i L => rowO n k i L) i A with
    | none => rw [hqe] at h; cases h
    | some N =>
      rw [hqe] at h
      have h : rowO n k i N = some M := h
      obtain ⟨ih1, ih2⟩ := ih (by omega) N hqe
      have hN : N.length = 81 := by rw [lpO_length _ (fun _ _ _ h2 => rowO_length _ _ _ _ _ h2) _ _ _ hqe, hA]
      have hrowk : ∀ q, q < 9 → gt N (9 * k + q) = gt A (9 * k + q) := by
        intro q hq
        rw [ih1 k q hq]; split
        · rw [show 9 * k + k = 10 * k by omega, hkk, sumI_one_left, mn_self]
        · rfl
      have hNkk : gt N (10 * k) = 1 := by rw [show 10 * k = 9 * k + k by omega, hrowk k (by omega), show 9 * k + k = 10 * k by omega, hkk]
      have hrow := row_part n k i N hn hN (by omega) hk hNkk (n + 1) (by omega)
      unfold rowO at h
      split at h
      · cases h
      · rename_i hge
        cases h
        refine ⟨fun p q hq => ?_, fun p hp => ?_⟩
        · show gt (lp (fun j L => cellL k i j L) (n + 1) N) (9 * p + q) = _
          rw [hrow p q hq]
          have ei : ∀ q, q < 9 → gt N (9 * i + q) = gt A (9 * i + q) := fun q hq => by rw [ih1 i q hq, if_neg (by omega)]
          by_cases hp : p = i
          · subst hp
            by_cases hqn : q < n + 1
            · rw [if_pos ⟨rfl, hqn⟩, if_pos ⟨by omega, by omega⟩, ei q hq, ei k (by omega), hrowk q hq]
            · rw [if_neg (by omega), if_neg (by omega), ei q hq]
          · rw [if_neg (by omega), ih1 p q hq]
            by_cases h2 : p < i ∧ q ≤ n
            · rw [if_pos h2, if_pos (by omega)]
            · rw [if_neg h2, if_neg (by omega)]
        · by_cases hpi : p = i
          · subst hpi; omega
          · have h9 : p < 9 := by omega
            show 1 ≤ gt (lp (fun j L => cellL k i j L) (n + 1) N) (10 * p)
            rw [show 10 * p = 9 * p + p by omega, hrow p p h9, if_neg (by omega), show 9 * p + p = 10 * p by omega]
            exact ih2 p (by omega)

theorem bd_of_cells {B : Int} {L : List Int} (hB : 0 ≤ B) (hL : L.length = 81) (h : ∀ p q, p < 9 → q < 9 → gt L (9 * p + q) = NONE ∨ (-B ≤ gt L (9 * p + q) ∧ gt L (9 * p + q) ≤ B)) : Bd B L := by
  intro t
  by_cases ht : t < 81
  · have := h (t / 9) (t % 9) (by omega) (by omega)
    rwa [show 9 * (t / 9) + t % 9 = t by omega] at this
  · right
    have : gt L t = 0 := by unfold gt; rw [List.getD_eq_getElem?_getD, List.getElem?_eq_none (by omega)]; rfl
    rw [this]; omega

/-- What holds of the matrix at the head of the round of k. -/
structure Head (n k : Nat) (B : Int) (A : List Int) : Prop where
  len : A.length = 81
  up : ∀ i, i ≤ n → gt A (10 * i) ≤ 1
  diag : k = 0 ∨ ∀ i, i ≤ n → gt A (10 * i) = 1
  bd : Bd B A

theorem row0_low (n : Nat) (A : List Int) (hn : n ≤ 8) (hA : A.length = 81) {B : Int} (hB : 0 ≤ B) (hb : Bd B A) (h0 : gt A 0 < 1) :
    ∀ j, j ≤ n + 1 → (Bd (3 * B + 2) (lp (fun j L => cellL 0 0 j L) j A) ∧ gt (lp (fun j L => cellL 0 0 j L) j A) 0 ≤ gt A 0 ∧ -(2 * B + 1) ≤ gt (lp (fun j L => cellL 0 0 j L) j A) 0 ∧
      ∀ t, j ≤ t → gt (lp (fun j L => cellL 0 0 j L) j A) t = gt A t) := by
  have hA0 : -B ≤ gt A 0 ∧ gt A 0 ≤ B := by
    rcases hb 0 with h | h
    · rw [h] at h0; unfold NONE at h0; omega
    · exact h
  intro j
  induction j with
  | zero => intro _; exact ⟨hb.mono (by omega), by simp [lp], by simp only [lp]; omega, fun t _ => rfl⟩
  | succ j ih =>
    intro hj
    obtain ⟨i1, i2, i3, i4⟩ := ih (by omega)
    have hlen : (lp (fun j L => cellL 0 0 j L) j A).length = 81 := by rw [lp_length _ (fun j L => cellL_length 0 0 j L), hA]
    rw [lp_succ]
    generalize lp (fun j L => cellL 0 0 j L) j A = N at *
    have hc : cellL 0 0 j N = st N j (mn (gt N j) (sumI (gt N 0) (gt N j))) := by
      unfold cellL; simp
    show Bd (3 * B + 2) (cellL 0 0 j N) ∧ gt (cellL 0 0 j N) 0 ≤ _ ∧ _ ≤ gt (cellL 0 0 j N) 0 ∧ ∀ t, _ → gt (cellL 0 0 j N) t = _
    have hj4 := i4 j (Nat.le_refl _)
    have hv : mn (gt N j) (sumI (gt N 0) (gt N j)) = NONE ∨ (-(3 * B + 2) ≤ mn (gt N j) (sumI (gt N 0) (gt N j)) ∧ mn (gt N j) (sumI (gt N 0) (gt N j)) ≤ 3 * B + 2) := by
      refine mn_bd (i1 j) ?_
      rw [hj4]
      unfold sumI
      split
      · exact .inl rfl
      · rename_i hne
        have := (hb j).resolve_left (fun e => hne (.inr e))
        right; split <;> omega
    rw [hc]
    refine ⟨i1.st _ _ hv, ?_, ?_, fun t ht => ?_⟩
    · rw [gt_st _ _ _ _ (by omega)]; split
      · rename_i h; subst h; have := mn_le (gt N 0) (sumI (gt N 0) (gt N 0)); omega
      · exact i2
    · rw [gt_st _ _ _ _ (by omega)]; split
      · rename_i h; subst h
        rw [hj4]
        unfold mn sumI NONE
        split <;> split <;> (try split) <;> omega
      · exact i3
    · rw [gt_st _ _ _ _ (by omega), if_neg (by omega)]
      exact i4 t (by omega)

/-- In the round of k all stays within twice the bound; behind it the diagonal is AT MOST 0. -/
theorem head_next (n k : Nat) (A M : List Int) {B : Int} (hn : n ≤ 8) (hk : k ≤ n) (hB : 1 ≤ B) (h : Head n k B A) (hM : lpO (fun i L => rowO n k i L) (n + 1) A = some M) :
    gt A (10 * k) = 1 ∧ Head n (k + 1) (4 * B) M := by
  have hlenM : M.length = 81 := by rw [lpO_length _ (fun _ _ _ h2 => rowO_length _ _ _ _ _ h2) _ _ _ hM, h.len]
  have hkk : gt A (10 * k) = 1 := by
    rcases h.diag with rfl | h1
    · by_cases hlt : gt A (10 * 0) < 1
      · exfalso
        have h0 : gt A 0 < 1 := hlt
        have := (row0_low n A hn h.len (by omega) h.bd h0 (n + 1) (by omega)).2.1
        have e1 : lpO (fun i L => rowO n 0 i L) 1 A = none := by
          show rowO n 0 0 A = none
          unfold rowO
          rw [if_pos (show gt (rowL n 0 0 A) (10 * 0) < 1 from by show gt (lp (fun j L => cellL 0 0 j L) (n + 1) A) 0 < 1; omega)]
        rw [lpO_none _ 1 (n + 1) _ e1 (by omega)] at hM
        cases hM
      · have := h.up 0 (by omega); omega
    · exact h1 k hk
  refine ⟨hkk, ?_⟩
  obtain ⟨r1, r2⟩ := round_part n k A hn h.len hk hkk (n + 1) (by omega) M hM
  have hbd : ∀ p q, p < 9 → q < 9 → gt M (9 * p + q) = NONE ∨ (-(4 * B) ≤ gt M (9 * p + q) ∧ gt M (9 * p + q) ≤ 4 * B) := by
    intro p q hp hq
    rw [r1 p q hq]
    split
    · refine mn_bd ((h.bd.mono (by omega)) _) ?_
      rcases sumI_bd (h.bd (9 * p + k)) (h.bd (9 * k + q)) with h | h
      · exact .inl h
      · exact .inr (by omega)
    · exact (h.bd.mono (by omega)) _
  have hup : ∀ i, i ≤ n → gt M (10 * i) ≤ 1 := by
    intro i hi
    rw [show 10 * i = 9 * i + i by omega, r1 i i (by omega), if_pos (by omega)]
    have := mn_le (gt A (9 * i + i)) (sumI (gt A (9 * i + k)) (gt A (9 * k + i)))
    have h1 := h.up i hi
    rw [show 10 * i = 9 * i + i by omega] at h1
    omega
  exact ⟨hlenM, hup, .inr fun i hi => by have := hup i hi; have := r2 i (by omega); omega, bd_of_cells (by omega) hlenM hbd⟩

theorem heads (n : Nat) (L : List Int) {B : Int} (hn : n ≤ 8) (hB : 1 ≤ B) (h : Head n 0 B L) :
    ∀ k, k ≤ n + 1 → ∀ A, lpO (fun k L => lpO (fun i L => rowO n k i L) (n + 1) L) k L = some A → Head n k (4 ^ k * B) A := by
  intro k
  induction k with
  | zero => intro _ A hA; cases hA; simpa using h
  | succ k ih =>
    intro hk A hA
    rw [lpO_succ] at hA
    cases hq : lpO (fun k L => lpO (fun i L => rowO n k i L) (n + 1) L) k L with
    | none => rw [hq] at hA; cases hA
    | some N =>
      rw [hq] at hA
      have hp : (1 : Int) ≤ 4 ^ k * B := by
        have : (1 : Int) ≤ 4 ^ k := by
          have := Int.pow_pos (n := 4) (m := k) (by omega); omega
        calc (1 : Int) ≤ 1 * B := by omega
          _ ≤ 4 ^ k * B := Int.mul_le_mul_of_nonneg_right this (by omega)
      have := (head_next n k N A hn (by omega) hp (ih (by omega) N hq) hA).2
      rwa [show (4 : Int) ^ (k + 1) * B = 4 * (4 ^ k * B) by rw [Int.pow_succ, Int.mul_comm (4 ^ k) 4, Int.mul_assoc]]

theorem pow4_le (k : Nat) (hk : k ≤ 9) : (4 : Int) ^ k ≤ 262144 := by
  have : ∀ k : Fin 10, (4 : Int) ^ k.val ≤ 262144 := by decide
  exact this ⟨k, by omega⟩

theorem safe_of_head (n : Nat) (L : List Int) (hn : n ≤ 8) (h : Head n 0 1073741824 L) : Safe n L := by
  intro k hk L1 h1 i hi L2 h2 j hj
  have hh := heads n L hn (by omega) h k (by omega) L1 h1
  have hp := pow4_le k (by omega)
  have hb1 : (1 : Int) ≤ 4 ^ k := by have := Int.pow_pos (n := 4) (m := k) (by omega); omega
  have hb : Bd (281474976710656) L1 := hh.bd.mono (by omega)
  have hL2 : L2.length = 81 := by rw [lpO_length _ (fun _ _ _ h2 => rowO_length _ _ _ _ _ h2) _ _ _ h2, hh.len]
  have hlen : (lp (fun j L => cellL k i j L) j L2).length = 81 := by rw [lp_length _ (fun j L => cellL_length k i j L), hL2]
  by_cases hkk : gt L1 (10 * k) = 1
  · have r := (round_part n k L1 hn hh.len hk hkk i (by omega) L2 h2).1
    have hrowk : ∀ q, q < 9 → gt L2 (9 * k + q) = gt L1 (9 * k + q) := by
      intro q hq
      rw [r k q hq]; split
      · rw [show 9 * k + k = 10 * k by omega, hkk, sumI_one_left, mn_self]
      · rfl
    have hkk2 : gt L2 (10 * k) = 1 := by rw [show 10 * k = 9 * k + k by omega, hrowk k (by omega), show 9 * k + k = 10 * k by omega, hkk]
    have hb2 : Bd 562949953421313 L2 := by
      refine bd_of_cells (by omega) hL2 fun p q _ hq => ?_
      rw [r p q hq]
      split
      · exact mn_bd ((hb.mono (by omega)) _) (sumI_bd (hb _) (hb _))
      · exact (hb.mono (by omega)) _
    have rp := row_part n k i L2 hn hL2 hi hk hkk2 j (by omega)
    refine (bd_of_cells (B := 1125899906842627) (by omega) hlen fun p q _ hq => ?_).mono (by omega)
    rw [rp p q hq]
    split
    · exact mn_bd ((hb2.mono (by omega)) _) (sumI_bd (hb2 _) (hb2 _))
    · exact (hb2.mono (by omega)) _
  · rcases hh.diag with rfl | hd
    · have h0 : gt L1 0 < 1 := by have := hh.up 0 (by omega); simp only [Nat.mul_zero] at this hkk; omega
      have hrow := row0_low n L1 hn hh.len (by omega) hb h0
      by_cases hi0 : i = 0
      · subst hi0
        cases h2
        exact ((hrow j (by omega)).1).mono (by omega)
      · exfalso
        have e1 : lpO (fun i L => rowO n 0 i L) 1 L1 = none := by
          show rowO n 0 0 L1 = none
          unfold rowO
          have := (hrow (n + 1) (by omega)).2.1
          rw [if_pos (show gt (rowL n 0 0 L1) (10 * 0) < 1 from by show gt (lp (fun j L => cellL 0 0 j L) (n + 1) L1) 0 < 1; omega)]
        rw [lpO_none _ 1 i _ e1 (by omega)] at h2
        cases h2
    · exact absurd (hd k hk) hkk

/-- A row that is written anew, cell by cell. -/
theorem setRow_form (v : Nat → Int) (i : Nat) (L : List Int) (hL : L.length = 81) (hi : i < 9) : ∀ m, m ≤ 9 → ∀ p q, q < 9 →
    gt (lp (fun j L => st L (9 * i + j) (v j)) m L) (9 * p + q) = if p = i ∧ q < m then v q else gt L (9 * p + q) := by
  intro m
  induction m with
  | zero => intro _ p q _; simp [lp]
  | succ m ih =>
    intro hm p q hq
    have hlen : (lp (fun j L => st L (9 * i + j) (v j)) m L).length = 81 := by rw [lp_length _ (fun j L => st_length _ _ _), hL]
    rw [lp_succ, gt_st_cell _ _ _ _ _ _ hlen hi (by omega) hq, ih (by omega) p q hq]
    by_cases h : p = i ∧ q = m
    · obtain ⟨rfl, rfl⟩ := h; rw [if_pos ⟨rfl, rfl⟩, if_pos (by omega)]
    · rw [if_neg h]
      by_cases h2 : p = i ∧ q < m
      · rw [if_pos h2, if_pos (by omega)]
      · rw [if_neg h2, if_neg (by omega)]
theorem setAll_form (v : Nat → Nat → Int) (m : Nat) (hm : m ≤ 9) (L : List Int) (hL : L.length = 81) : ∀ r, r ≤ 9 → ∀ p q, q < 9 →
    gt (lp (fun i L => lp (fun j L => st L (9 * i + j) (v i j)) m L) r L) (9 * p + q) = if p < r ∧ q < m then v p q else gt L (9 * p + q) := by
  intro r
  induction r with
  | zero => intro _ p q _; simp [lp]
  | succ r ih =>
    intro hr p q hq
    have hlen : (lp (fun i L => lp (fun j L => st L (9 * i + j) (v i j)) m L) r L).length = 81 := by
      rw [lp_length _ (fun i L => lp_length _ (fun j L => st_length _ _ _) _ _), hL]
    rw [lp_succ, setRow_form (v r) r _ hlen (by omega) m hm p q hq, ih (by omega) p q hq]
    by_cases h : p = r ∧ q < m
    · obtain ⟨rfl, h⟩ := h; rw [if_pos ⟨rfl, h⟩, if_pos (by omega)]
    · rw [if_neg h]
      by_cases h2 : p < r ∧ q < m
      · rw [if_pos h2, if_pos (by omega)]
      · rw [if_neg h2, if_neg (by omega)]
theorem zeros_gt (t : Nat) : gt zeros t = 0 := by
  unfold gt zeros
  rw [List.getD_eq_getElem?_getD, List.getElem?_replicate]
  split <;> rfl
theorem st_st (L : List Int) (t : Nat) (u v : Int) : st (st L t u) t v = st L t v := by unfold st; simp
theorem openC_eq (i j : Nat) (L : List Int) : openC i j L = st L (9 * i + j) (if i = j ∨ i = 0 then 1 else NONE) := by
  unfold openC; split
  · rw [st_st]
  · rfl
theorem lp_congr {α : Type} {f g : Nat → α → α} (h : ∀ i a, f i a = g i a) (m : Nat) (a : α) : lp f m a = lp g m a := by
  have : f = g := by funext i a; exact h i a
  rw [this]
theorem open_form (n : Nat) (hn : n ≤ 8) (p q : Nat) (hq : q < 9) : gt (openL n) (9 * p + q) = if p ≤ n ∧ q ≤ n then (if p = q ∨ p = 0 then 1 else NONE) else 0 := by
  have e : openL n = lp (fun i L => lp (fun j L => st L (9 * i + j) (if i = j ∨ i = 0 then 1 else NONE)) (n + 1) L) (n + 1) zeros := by
    unfold openL
    exact lp_congr (fun i L => lp_congr (fun j L => openC_eq i j L) _ _) _ _
  rw [e, setAll_form (fun i j => if i = j ∨ i = 0 then 1 else NONE) (n + 1) (by omega) zeros zeros_length (n + 1) (by omega) p q hq, zeros_gt]
  by_cases h : p ≤ n ∧ q ≤ n
  · rw [if_pos h, if_pos (by omega)]
  · rw [if_neg h, if_neg (by omega)]

/-- What holds of a matrix before it is closed. -/
structure Start (n : Nat) (L : List Int) : Prop where
  len : L.length = 81
  up : ∀ i, i ≤ n → gt L (10 * i) ≤ 1
  bd : Bd 1073741824 L
theorem Start.head {n : Nat} {L : List Int} (h : Start n L) : Head n 0 1073741824 L := ⟨h.len, h.up, .inl rfl, h.bd⟩
theorem Start.safe {n : Nat} {L : List Int} (h : Start n L) (hn : n ≤ 8) : Safe n L := safe_of_head n L hn h.head
theorem Start.open_ (n : Nat) (hn : n ≤ 8) : Start n (openL n) :=
  ⟨openL_length n, fun i hi => by rw [show 10 * i = 9 * i + i by omega, open_form n hn i i (by omega), if_pos ⟨hi, hi⟩, if_pos (.inl rfl)]; omega, (openL_bd n).mono (by omega)⟩
theorem Start.keep {n : Nat} {L : List Int} (h : Start n L) (i j : Nat) (b : Int) (hb : rightB b = true) : Start n (keepL L i j b) := by
  have hb' : b = INF ∨ (-536870912 ≤ b ∧ b ≤ 536870913) := of_decide_eq_true hb
  refine ⟨by rw [keepL_length, h.len], fun k hk => ?_, keepL_bd h.bd i j b (by omega)⟩
  unfold keepL
  split
  · exact h.up k hk
  · by_cases hlt : 9 * i + j < L.length
    · rw [gt_st _ _ _ _ hlt]
      split
      · rename_i e
        have := mn_le (gt L (9 * i + j)) b
        have h2 := h.up k hk
        rw [e] at h2
        omega
      · exact h.up k hk
    · have : st L (9 * i + j) (mn (gt L (9 * i + j)) b) = L := by unfold st; exact List.set_eq_of_length_le (by omega)
      rw [this]; exact h.up k hk
theorem lpO_inv {α : Type} (P : α → Prop) (f : Nat → α → Option α) (m : Nat) (a b : α) (h0 : P a) (hs : ∀ i a b, i < m → P a → f i a = some b → P b) (h : lpO f m a = some b) : P b := by
  induction m generalizing b with
  | zero => cases h; exact h0
  | succ m ih =>
    rw [lpO_succ] at h
    cases hq : lpO f m a with
    | none => rw [hq] at h; cases h
    | some q => rw [hq] at h; exact hs m q b (by omega) (ih q (fun i a b hi => hs i a b (by omega)) hq) h
theorem ofL_start (n : Nat) (hn : n ≤ 8) (cells : List Int) (m : Nat) (L : List Int)
    (h : lpO (fun t L => if rightB (gt cells t) then some (keepL L (t / (n + 1)) (t % (n + 1)) (gt cells t)) else none) m (openL n) = some L) : Start n L := by
  refine lpO_inv (Start n) _ m _ L (Start.open_ n hn) (fun i a b _ ha hb => ?_) h
  split at hb
  · rename_i hr; cases hb; exact ha.keep _ _ _ hr
  · cases hb
theorem limL_start (n : Nat) (hn : n ≤ 8) (l : List Lim) (m : Nat) (L : List Int)
    (h : lpO (fun t L => if limOk n (l.getD t ⟨0, 0, 0⟩) then some (keepL L (l.getD t ⟨0, 0, 0⟩).i.toNat (l.getD t ⟨0, 0, 0⟩).j.toNat (l.getD t ⟨0, 0, 0⟩).b) else none) m (openL n) = some L) : Start n L := by
  refine lpO_inv (Start n) _ m _ L (Start.open_ n hn) (fun i a b _ ha hb => ?_) h
  split at hb
  · rename_i hr; cases hb
    unfold limOk at hr
    simp only [Bool.and_eq_true] at hr
    exact ha.keep _ _ _ hr.2
  · cases hb
end Go.Proofs.Ytapfihlgemejiaa
-- Plain zones: a number of clocks and 81 cells; which includes which.
namespace Go.Proofs.Ytapfihlgemejiaa

structure Zn where
  n : Nat
  Z : List Int

def emptyB (Z : List Int) : Bool := decide (gt Z 0 < 1)
/-- Does the first one include the second? -/
def inclB (a b : Zn) : Bool := decide (a.n = b.n) && (emptyB b.Z || (List.range (a.n + 1)).all fun i => (List.range (a.n + 1)).all fun j => decide (gt b.Z (9 * i + j) ≤ gt a.Z (9 * i + j)))
theorem inclB_iff (a b : Zn) : inclB a b = true ↔ a.n = b.n ∧ (emptyB b.Z = true ∨ ∀ i j, i ≤ a.n → j ≤ a.n → gt b.Z (9 * i + j) ≤ gt a.Z (9 * i + j)) := by
  unfold inclB
  simp only [Bool.and_eq_true, Bool.or_eq_true, decide_eq_true_eq, List.all_eq_true, List.mem_range]
  constructor
  · rintro ⟨h1, h2⟩
    refine ⟨h1, ?_⟩
    rcases h2 with h2 | h2
    · exact .inl h2
    · exact .inr fun i j hi hj => h2 i (by omega) j (by omega)
  · rintro ⟨h1, h2⟩
    refine ⟨h1, ?_⟩
    rcases h2 with h2 | h2
    · exact .inl h2
    · exact .inr fun i hi j hj => h2 i j (by omega) (by omega)
theorem inclB_dim {a b : Zn} (h : a.n ≠ b.n) : inclB a b = false := by
  cases hq : inclB a b with
  | false => rfl
  | true => exact absurd ((inclB_iff a b).1 hq).1 h
theorem inclB_empty {a b : Zn} (h : a.n = b.n) (he : emptyB b.Z = true) : inclB a b = true := (inclB_iff a b).2 ⟨h, .inl he⟩
theorem inclB_all {a b : Zn} (h : a.n = b.n) (he : ∀ i j, i ≤ a.n → j ≤ a.n → gt b.Z (9 * i + j) ≤ gt a.Z (9 * i + j)) : inclB a b = true := (inclB_iff a b).2 ⟨h, .inr he⟩
theorem inclB_not {a b : Zn} {i j : Nat} (he : emptyB b.Z = false) (hi : i ≤ a.n) (hj : j ≤ a.n) (h : gt a.Z (9 * i + j) < gt b.Z (9 * i + j)) : inclB a b = false := by
  cases hq : inclB a b with
  | false => rfl
  | true =>
    rcases ((inclB_iff a b).1 hq).2 with h2 | h2
    · rw [he] at h2; cases h2
    · have := h2 i j hi hj; omega
/-- The same one? -/
def equalB (a b : Zn) : Bool := decide (a.n = b.n) && decide (a.Z = b.Z)
end Go.Proofs.Ytapfihlgemejiaa
