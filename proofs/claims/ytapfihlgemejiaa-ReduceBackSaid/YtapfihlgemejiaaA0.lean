/- Plain functions that the walks over package dbm come to: counted loops, sums of wide bounds, the closing of a matrix of 9 times 9 cells. No program is named here. -/
namespace Go.Proofs.Ytapfihlgemejiaa

/-- A counted loop: f 0, f 1, .., f (m - 1), one behind the other. -/
def lp {α : Type} (f : Nat → α → α) : Nat → α → α
  | 0, a => a
  | m + 1, a => f m (lp f m a)
/-- A counted loop that may end early. -/
def lpO {α : Type} (f : Nat → α → Option α) : Nat → α → Option α
  | 0, a => some a
  | m + 1, a => (lpO f m a).bind (f m)

theorem lp_succ {α : Type} (f : Nat → α → α) (m : Nat) (a : α) : lp f (m + 1) a = f m (lp f m a) := rfl
theorem lpO_succ {α : Type} (f : Nat → α → Option α) (m : Nat) (a : α) : lpO f (m + 1) a = (lpO f m a).bind (f m) := rfl
theorem lpO_none {α : Type} (f : Nat → α → Option α) (m n : Nat) (a : α) (h : lpO f m a = none) (hn : m ≤ n) : lpO f n a = none := by
  induction n with
  | zero => have : m = 0 := by omega
            subst this; exact h
  | succ n ih =>
    by_cases hmn : m = n + 1
    · subst hmn; exact h
    · rw [lpO_succ, ih (by omega)]; rfl

/-- A cell of a row of numbers. -/
def gt (L : List Int) (t : Nat) : Int := L.getD t 0
/-- The row with one cell turned. -/
def st (L : List Int) (t : Nat) (v : Int) : List Int := L.set t v
theorem st_length (L : List Int) (t : Nat) (v : Int) : (st L t v).length = L.length := by simp [st]
theorem gt_st (L : List Int) (t u : Nat) (v : Int) (h : t < L.length) : gt (st L t v) u = if u = t then v else gt L u := by
  unfold gt st
  simp only [List.getD_eq_getElem?_getD, List.getElem?_set]
  by_cases hu : t = u
  · subst hu; simp [h]
  · rw [if_neg hu, if_neg (fun e => hu e.symm)]

def NONE : Int := 4611686018427387904
def INF : Int := 2147483647
def zeros : List Int := List.replicate 81 0
theorem zeros_length : zeros.length = 81 := by decide
/-- The smaller one, as the program finds it. -/
def mn (a b : Int) : Int := if b < a then b else a
/-- The sum of two wide bounds. -/
def sumI (a b : Int) : Int := if a = NONE ∨ b = NONE then NONE else if a % 2 = 1 ∨ b % 2 = 1 then a + b - 1 else a + b

/-- open: all cells without a bound, but for what holds of all valuations. -/
def openC (i j : Nat) (L : List Int) : List Int := if i = j ∨ i = 0 then st (st L (9 * i + j) NONE) (9 * i + j) 1 else st L (9 * i + j) NONE
def openL (n : Nat) : List Int := lp (fun i L => lp (fun j L => openC i j L) (n + 1) L) (n + 1) zeros
def keepL (L : List Int) (i j : Nat) (b : Int) : List Int := if b = INF then L else st L (9 * i + j) (mn (gt L (9 * i + j)) b)
def cellL (k i j : Nat) (L : List Int) : List Int := st L (9 * i + j) (mn (gt L (9 * i + j)) (sumI (gt L (9 * i + k)) (gt L (9 * k + j))))
def rowL (n k i : Nat) (L : List Int) : List Int := lp (fun j L => cellL k i j L) (n + 1) L
def rowO (n k i : Nat) (L : List Int) : Option (List Int) := if gt (rowL n k i L) (10 * i) < 1 then none else some (rowL n k i L)
def closeL (n : Nat) (L : List Int) : Option (List Int) := lpO (fun k L => lpO (fun i L => rowO n k i L) (n + 1) L) (n + 1) L

def outL (L : List Int) (i j : Nat) (Z : List Int) : Option (List Int) :=
  if gt L (9 * i + j) = NONE then some (st Z (9 * i + j) INF)
  else if gt L (9 * i + j) < -536870912 ∨ 536870913 < gt L (9 * i + j) then none else some (st Z (9 * i + j) (gt L (9 * i + j)))
def zoneL (n : Nat) (L : List Int) : Option (List Int) := lpO (fun i Z => lpO (fun j Z => outL L i j Z) (n + 1) Z) (n + 1) zeros

/-- A zone's cells, or an error's number. -/
inductive ZR where
  | err (e : Int)
  | ok (Z : List Int)

def zoneOf (n : Nat) (L : List Int) : ZR :=
  match closeL n L with
  | none => .ok zeros
  | some L' => match zoneL n L' with
    | none => .err 10
    | some Z => .ok Z

def rightB (b : Int) : Bool := decide (b = INF ∨ (-536870912 ≤ b ∧ b ≤ 536870913))
def fewB (n : Int) : Bool := decide (0 ≤ n ∧ n ≤ 8)

/-- The bounds, row by row, laid over the open cells. -/
def ofL (n : Nat) (cells : List Int) : Option (List Int) :=
  lpO (fun t L => if rightB (gt cells t) then some (keepL L (t / (n + 1)) (t % (n + 1)) (gt cells t)) else none) cells.length (openL n)
def ofZ (n : Int) (cells : List Int) : ZR :=
  if fewB n = false then .err 12
  else if (cells.length : Int) ≠ (n + 1) * (n + 1) then .err 6
  else match ofL n.toNat cells with
    | none => .err 7
    | some L => zoneOf n.toNat L

/-- A bound of a difference. -/
structure Lim where
  i : Int
  j : Int
  b : Int
def limOk (n : Int) (x : Lim) : Bool := decide (0 ≤ x.i ∧ x.i ≤ n ∧ 0 ≤ x.j ∧ x.j ≤ n) && rightB x.b
def limL (n : Int) (l : List Lim) : Option (List Int) :=
  lpO (fun t L => if limOk n (l.getD t ⟨0, 0, 0⟩) then some (keepL L (l.getD t ⟨0, 0, 0⟩).i.toNat (l.getD t ⟨0, 0, 0⟩).j.toNat (l.getD t ⟨0, 0, 0⟩).b) else none) l.length (openL n.toNat)
def limZ (n : Int) (l : List Lim) : ZR :=
  if fewB n = false then .err 12
  else match limL n l with
    | none => .err 7
    | some L => zoneOf n.toNat L
def zeroZ (n : Int) : ZR :=
  if fewB n = false then .err 12 else zoneOf n.toNat (lp (fun i L => keepL L i 0 1) (n.toNat + 1) (openL n.toNat))

section lengths
theorem lp_length (f : Nat → List Int → List Int) (hf : ∀ i L, (f i L).length = L.length) (m : Nat) (L : List Int) : (lp f m L).length = L.length := by
  induction m with
  | zero => rfl
  | succ m ih => rw [lp_succ, hf, ih]
theorem lpO_length (f : Nat → List Int → Option (List Int)) (hf : ∀ i L L', f i L = some L' → L'.length = L.length) (m : Nat) (L L' : List Int) (h : lpO f m L = some L') : L'.length = L.length := by
  induction m generalizing L' with
  | zero => cases h; rfl
  | succ m ih =>
    rw [lpO_succ] at h
    cases hq : lpO f m L with
    | none => rw [hq] at h; cases h
    | some q => rw [hq] at h; rw [hf _ _ _ h, ih _ hq]
theorem openC_length (i j : Nat) (L : List Int) : (openC i j L).length = L.length := by unfold openC; split <;> simp [st_length]
theorem openL_length (n : Nat) : (openL n).length = 81 := by
  unfold openL
  rw [lp_length _ (fun i L => lp_length _ (fun j L => openC_length i j L) _ _), zeros_length]
theorem keepL_length (L : List Int) (i j : Nat) (b : Int) : (keepL L i j b).length = L.length := by unfold keepL; split <;> simp [st_length]
theorem cellL_length (k i j : Nat) (L : List Int) : (cellL k i j L).length = L.length := by unfold cellL; simp [st_length]
theorem rowL_length (n k i : Nat) (L : List Int) : (rowL n k i L).length = L.length := lp_length _ (fun j L => cellL_length k i j L) _ _
theorem rowO_length (n k i : Nat) (L L' : List Int) (h : rowO n k i L = some L') : L'.length = L.length := by
  unfold rowO at h; split at h
  · cases h
  · cases h; exact rowL_length _ _ _ _
theorem closeL_length (n : Nat) (L L' : List Int) (h : closeL n L = some L') : L'.length = L.length :=
  lpO_length _ (fun _ _ _ h1 => lpO_length _ (fun _ _ _ h2 => rowO_length _ _ _ _ _ h2) _ _ _ h1) _ _ _ h
theorem outL_length (L : List Int) (i j : Nat) (Z Z' : List Int) (h : outL L i j Z = some Z') : Z'.length = Z.length := by
  unfold outL at h
  split at h
  · cases h; simp [st_length]
  · split at h
    · cases h
    · cases h; simp [st_length]
theorem zoneL_length (n : Nat) (L Z : List Int) (h : zoneL n L = some Z) : Z.length = 81 := by
  rw [lpO_length _ (fun _ _ _ h1 => lpO_length _ (fun _ _ _ h2 => outL_length _ _ _ _ _ h2) _ _ _ h1) _ _ _ h, zeros_length]
theorem zoneOf_length (n : Nat) (L Z : List Int) (h : zoneOf n L = .ok Z) : Z.length = 81 := by
  unfold zoneOf at h
  split at h
  · cases h; exact zeros_length
  · split at h
    · cases h
    · rename_i hz; cases h; exact zoneL_length _ _ _ hz
end lengths

section sizes
/-- How far the cells of a matrix may lie from 0. -/
def Bd (B : Int) (L : List Int) : Prop := ∀ t, gt L t = NONE ∨ (-B ≤ gt L t ∧ gt L t ≤ B)

theorem Bd.st {B : Int} {L : List Int} (h : Bd B L) (t : Nat) (v : Int) (hv : v = NONE ∨ (-B ≤ v ∧ v ≤ B)) : Bd B (st L t v) := by
  intro u
  by_cases ht : t < L.length
  · rw [gt_st _ _ _ _ ht]; split
    · exact hv
    · exact h u
  · have : Go.Proofs.Ytapfihlgemejiaa.st L t v = L := by unfold Go.Proofs.Ytapfihlgemejiaa.st; exact List.set_eq_of_length_le (by omega)
    rw [this]; exact h u
theorem Bd.mono {B B' : Int} {L : List Int} (h : Bd B L) (hB : B ≤ B') : Bd B' L := fun t => by
  rcases h t with h | h
  · exact .inl h
  · exact .inr (by omega)
theorem mn_bd {B a b : Int} (ha : a = NONE ∨ (-B ≤ a ∧ a ≤ B)) (hb : b = NONE ∨ (-B ≤ b ∧ b ≤ B)) : mn a b = NONE ∨ (-B ≤ mn a b ∧ mn a b ≤ B) := by
  unfold mn; split
  · exact hb
  · exact ha
theorem sumI_bd {B a b : Int} (ha : a = NONE ∨ (-B ≤ a ∧ a ≤ B)) (hb : b = NONE ∨ (-B ≤ b ∧ b ≤ B)) : sumI a b = NONE ∨ (-(2 * B + 1) ≤ sumI a b ∧ sumI a b ≤ 2 * B + 1) := by
  unfold sumI
  split
  · exact .inl rfl
  · rename_i h
    have h1 : ¬ a = NONE := fun e => h (.inl e)
    have h2 : ¬ b = NONE := fun e => h (.inr e)
    rcases ha with ha | ha
    · exact absurd ha h1
    · rcases hb with hb | hb
      · exact absurd hb h2
      · right; split <;> omega
theorem zeros_bd : Bd 1 zeros := fun t => by
  right
  have : gt zeros t = 0 := by
    unfold gt zeros
    rw [List.getD_eq_getElem?_getD, List.getElem?_replicate]
    split <;> rfl
  rw [this]; omega
theorem lp_inv {α : Type} (P : α → Prop) (f : Nat → α → α) (m : Nat) (a : α) (h0 : P a) (hs : ∀ i a, i < m → P a → P (f i a)) : P (lp f m a) := by
  induction m with
  | zero => exact h0
  | succ m ih => exact hs m _ (by omega) (ih (fun i a hi h => hs i a (by omega) h))
theorem openL_bd (n : Nat) : Bd 1 (openL n) := by
  refine lp_inv (Bd 1) _ _ _ zeros_bd (fun i L _ h => lp_inv (Bd 1) _ _ _ h (fun j L _ h => ?_))
  unfold openC
  split
  · exact (h.st _ _ (.inl rfl)).st _ _ (.inr (by omega))
  · exact h.st _ _ (.inl rfl)
theorem keepL_bd {B : Int} {L : List Int} (h : Bd B L) (i j : Nat) (b : Int) (hb : b = INF ∨ (-B ≤ b ∧ b ≤ B)) : Bd B (keepL L i j b) := by
  unfold keepL
  split
  · exact h
  · rename_i hne
    refine h.st _ _ (mn_bd (h _) ?_)
    rcases hb with hb | hb
    · exact absurd hb hne
    · exact .inr hb
end sizes

/-- All that the closing reckons with stays small. -/
def Safe (n : Nat) (L : List Int) : Prop :=
  ∀ k, k ≤ n → ∀ L1, lpO (fun k L => lpO (fun i L => rowO n k i L) (n + 1) L) k L = some L1 → ∀ i, i ≤ n → ∀ L2, lpO (fun i L => rowO n k i L) i L1 = some L2 →
    ∀ j, j ≤ n → Bd 1152921504606846976 (lp (fun j L => cellL k i j L) j L2)
end Go.Proofs.Ytapfihlgemejiaa
