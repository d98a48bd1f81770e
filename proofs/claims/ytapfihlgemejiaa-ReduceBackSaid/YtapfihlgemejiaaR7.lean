/- The insertion sort by a rank of three, plain. -/
import Derived.Test.YtapfihlgemejiaaR3
namespace Go.Proofs.Ytapfihlgemejiaa

/-- Two neighbours turned. -/
def swapL (d : List Nat) (j : Nat) : List Nat := (d.set (j + 1) (d.getD j 0)).set j (d.getD (j + 1) 0)
/-- An element sinks to its place. -/
def sink (f : Nat → Nat) : List Nat → Nat → List Nat
  | d, 0 => d
  | d, j + 1 => if f (d.getD (j + 1) 0) < f (d.getD j 0) then sink f (swapL d j) j else d
def insTo (f : Nat → Nat) (d : List Nat) : Nat → List Nat
  | 0 => d
  | m + 1 => sink f (insTo f d m) (m + 1)
theorem swapL_mid (A : List Nat) (y x : Nat) (R : List Nat) : swapL (A ++ y :: x :: R) A.length = A ++ x :: y :: R := by
  unfold swapL
  simp [List.getD_eq_getElem?_getD]
theorem sink_mid (f : Nat → Nat) (x : Nat) : ∀ (B : List Nat) (A R : List Nat), (∀ y ∈ B, f x < f y) → (∀ a, A.getLast? = some a → f a ≤ f x) →
    sink f (A ++ B.reverse ++ x :: R) (A.length + B.length) = A ++ x :: (B.reverse ++ R) := by
  intro B
  induction B with
  | nil =>
    intro A R _ hA
    cases hl : A.length with
    | zero =>
      have : A = [] := List.length_eq_zero_iff.1 hl
      subst this
      rfl
    | succ k =>
      have hne : A ≠ [] := by intro e; subst e; cases hl
      have h1 := hA _ (List.getLast?_eq_some_getLast hne)
      show sink f (A ++ [] ++ x :: R) (k + 1) = _
      have e1 : (A ++ [] ++ x :: R).getD (k + 1) 0 = x := by
        rw [List.getD_eq_getElem?_getD, List.append_nil, List.getElem?_append_right (by omega), hl]; simp
      have e2 : (A ++ [] ++ x :: R).getD k 0 = A.getLast hne := by
        rw [List.getD_eq_getElem?_getD, List.append_nil, List.getElem?_append_left (by omega), List.getLast_eq_getElem]
        simp [hl]
      unfold sink
      rw [e1, e2, if_neg (by omega)]
      simp
  | cons y B ih =>
    intro A R hB hA
    have e0 : A ++ (y :: B).reverse ++ x :: R = (A ++ B.reverse) ++ y :: x :: R := by simp
    have hlen : A.length + (y :: B).length = (A ++ B.reverse).length + 1 := by simp; omega
    rw [e0, hlen]
    have e1 : ((A ++ B.reverse) ++ y :: x :: R).getD ((A ++ B.reverse).length + 1) 0 = x := by
      rw [List.getD_eq_getElem?_getD, List.getElem?_append_right (by omega)]; simp
    have e2 : ((A ++ B.reverse) ++ y :: x :: R).getD (A ++ B.reverse).length 0 = y := by
      rw [List.getD_eq_getElem?_getD, List.getElem?_append_right (by omega)]; simp
    unfold sink
    rw [e1, e2, if_pos (hB y (by simp)), swapL_mid]
    have := ih A (y :: R) (fun u hu => hB u (by simp [hu])) hA
    rw [show (A ++ B.reverse).length = A.length + B.length by simp]
    rw [this]
    simp
/-- In the order of three ranks. -/
def byRank (f : Nat → Nat) (c : List Nat) : List Nat := (c.filter fun x => f x = 0) ++ (c.filter fun x => f x = 1) ++ (c.filter fun x => f x = 2)
theorem byRank_nil (f : Nat → Nat) : byRank f [] = [] := rfl
theorem byRank_length (f : Nat → Nat) (hf : ∀ x, f x ≤ 2) : ∀ c : List Nat, (byRank f c).length = c.length
  | [] => rfl
  | x :: c => by
    have ih := byRank_length f hf c
    have h := hf x
    have h3 : f x = 0 ∨ f x = 1 ∨ f x = 2 := by omega
    unfold byRank at ih ⊢
    simp only [List.length_append] at ih
    rcases h3 with h3 | h3 | h3 <;> simp [h3] <;> omega
theorem sink_byRank (f : Nat → Nat) (hf : ∀ x, f x ≤ 2) (t R : List Nat) (x : Nat) : sink f (byRank f t ++ x :: R) t.length = byRank f (t ++ [x]) ++ R := by
  have hlen := byRank_length f hf t
  have h3 : f x = 0 ∨ f x = 1 ∨ f x = 2 := by have := hf x; omega
  have key : ∀ (A B : List Nat), byRank f t = A ++ B → (∀ y ∈ B, f x < f y) → (∀ a ∈ A, f a ≤ f x) → sink f (byRank f t ++ x :: R) t.length = A ++ x :: (B ++ R) := fun A B e hB hA => by
    have h := sink_mid f x B.reverse A R (fun y hy => hB y (by simpa using hy)) (fun a ha => hA a (List.mem_of_getLast? ha))
    rw [List.reverse_reverse] at h
    rw [← hlen, e]
    simpa using h
  rcases h3 with h | h | h
  · rw [key (t.filter fun x => f x = 0) ((t.filter fun x => f x = 1) ++ (t.filter fun x => f x = 2)) (by unfold byRank; simp) (fun y hy => by simp at hy; omega) (fun a ha => by simp at ha; omega)]
    unfold byRank
    simp [h]
  · rw [key ((t.filter fun x => f x = 0) ++ (t.filter fun x => f x = 1)) (t.filter fun x => f x = 2) (by unfold byRank; simp) (fun y hy => by simp at hy; omega) (fun a ha => by simp at ha; omega)]
    unfold byRank
    simp [h]
  · rw [key (byRank f t) [] (by simp) (fun y hy => by cases hy) (fun a ha => by have := hf a; omega)]
    unfold byRank
    simp [h]
theorem insTo_byRank (f : Nat → Nat) (hf : ∀ x, f x ≤ 2) (c : List Nat) : ∀ m, m < c.length → insTo f c m = byRank f (c.take (m + 1)) ++ c.drop (m + 1)
  | 0, h => by
    cases c with
    | nil => cases h
    | cons x c =>
      have := sink_byRank f hf [] c x
      simpa [byRank_nil, sink, insTo] using this
  | m + 1, h => by
    show sink f (insTo f c m) (m + 1) = _
    rw [insTo_byRank f hf c m (by omega), List.drop_eq_getElem_cons h]
    have := sink_byRank f hf (c.take (m + 1)) (c.drop (m + 1 + 1)) c[m + 1]
    rw [List.length_take, Nat.min_eq_left (by omega)] at this
    rw [this, List.take_succ_eq_append_getElem h]
theorem insTo_all (f : Nat → Nat) (hf : ∀ x, f x ≤ 2) (c : List Nat) (h : c ≠ []) : insTo f c (c.length - 1) = byRank f c := by
  have hp : 0 < c.length := List.length_pos_iff.2 h
  rw [insTo_byRank f hf c _ (by omega)]
  rw [show c.length - 1 + 1 = c.length by omega]
  simp
theorem roundL_eq (Z : List Int) (c : List Nat) (h : c.getD 0 0 = 0) : roundL Z c = byRank (rankI Z) c := by
  unfold roundL byRank
  rw [if_pos h]
end Go.Proofs.Ytapfihlgemejiaa
