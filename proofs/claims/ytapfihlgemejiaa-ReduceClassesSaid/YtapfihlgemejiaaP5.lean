/- Plain: the classes gone through one by one, each clock marked by its class. -/
import Derived.Test.YtapfihlgemejiaaP4
namespace Go.Proofs.Ytapfihlgemejiaa

section
variable {n : Nat} {Z : List Int}
theorem ZCl.heads_sorted (h : ZCl n Z) : (classesL Z n).Pairwise (fun c d => hd c < hd d) := by
  rw [classesL_eq, List.pairwise_map]
  have h1 : (headsL Z (n + 1) (n + 1)).Pairwise (· < ·) := List.Pairwise.sublist List.filter_sublist List.pairwise_lt_range
  refine h1.imp_of_mem (fun {a b} ha hb hlt => ?_)
  have hh : ∀ y, y ∈ headsL Z (n + 1) (n + 1) → hd (memTo Z (n + 1) y) = y := fun y hy => by
    unfold headsL at hy
    rw [List.mem_filter, List.mem_range] at hy
    obtain ⟨x, hx⟩ : ∃ x, x ∈ memTo Z (n + 1) y := by
      cases hm : memTo Z (n + 1) y with
      | nil => rw [hm] at hy; simp at hy
      | cons a l => exact ⟨a, List.mem_cons_self⟩
    obtain ⟨h3, h4⟩ := mem_memTo.1 hx
    refine h.hd_mem ⟨by omega, ?_⟩
    rw [← h4]; exact h.head_head (by omega)
  rw [hh a ha, hh b hb]
  exact hlt
/-- A class, by its number. -/
def clN (Z : List Int) (n i : Nat) : List Nat := (classesL Z n).getD i []
theorem clN_mem {i : Nat} (h : i < (classesL Z n).length) : clN Z n i ∈ classesL Z n := by
  unfold clN
  rw [List.getD_eq_getElem?_getD, List.getElem?_eq_getElem h]; exact List.getElem_mem h
theorem ZCl.clN_lt (h : ZCl n Z) {i j : Nat} (hij : i < j) (hj : j < (classesL Z n).length) : hd (clN Z n i) < hd (clN Z n j) := by
  have := List.pairwise_iff_getElem.1 h.heads_sorted i j (by omega) hj hij
  unfold clN
  rw [List.getD_eq_getElem?_getD, List.getD_eq_getElem?_getD, List.getElem?_eq_getElem (by omega), List.getElem?_eq_getElem hj]
  exact this
theorem ZCl.clN_apart (h : ZCl n Z) {i j x : Nat} (hi : i < (classesL Z n).length) (hj : j < (classesL Z n).length) (h1 : x ∈ clN Z n i) (h2 : x ∈ clN Z n j) : i = j := by
  have a := ((h.class_of (clN_mem hi)).2.1 x).1 h1
  have b := ((h.class_of (clN_mem hj)).2.1 x).1 h2
  rcases Nat.lt_trichotomy i j with e | e | e
  · have := h.clN_lt e hj; omega
  · exact e
  · have := h.clN_lt e hi; omega
theorem ZCl.clN_has (h : ZCl n Z) {x : Nat} (hx : x ≤ n) : ∃ i, i < (classesL Z n).length ∧ x ∈ clN Z n i := by
  obtain ⟨c, hc, _, hxc⟩ := h.class_of_clock hx
  obtain ⟨i, hi, e⟩ := List.getElem_of_mem hc
  refine ⟨i, hi, ?_⟩
  unfold clN
  rw [List.getD_eq_getElem?_getD, List.getElem?_eq_getElem hi, e]; exact hxc
/-- What has been marked behind i classes and k of the next one. -/
structure Mk (n : Nat) (Z : List Int) (i k : Nat) (M : List Nat) (cnt : Nat) : Prop where
  len : M.length = n + 1
  done : ∀ a x, a < i → x ∈ clN Z n a → M.getD x 0 = a + 1
  part : ∀ x, x ∈ (clN Z n i).take k → M.getD x 0 = i + 1
  rest : ∀ x, x ≤ n → (∀ a, a < i → x ∉ clN Z n a) → x ∉ (clN Z n i).take k → M.getD x 0 = 0
  cnt : cnt = ((((classesL Z n).take i).map List.length).sum) + k
theorem Mk.start : Mk n Z 0 0 (List.replicate (n + 1) 0) 0 :=
  ⟨by simp, fun a x ha => absurd ha (Nat.not_lt_zero _), fun x hx => by simp at hx, fun x _ _ _ => by
    rw [List.getD_eq_getElem?_getD, List.getElem?_replicate]; split <;> rfl, by simp⟩
theorem ZCl.mk_zero (h : ZCl n Z) {i k : Nat} {M : List Nat} {cnt : Nat} (hm : Mk n Z i k M cnt) (hi : i < (classesL Z n).length) (hk : k < (clN Z n i).length) :
    (clN Z n i).getD k 0 ≤ n ∧ M.getD ((clN Z n i).getD k 0) 0 = 0 := by
  have hx : (clN Z n i).getD k 0 ∈ clN Z n i := getD_mem hk
  obtain ⟨_, cm, _, cn, _⟩ := h.class_of (clN_mem hi)
  have hxn := ((cm _).1 hx).1
  refine ⟨hxn, hm.rest _ hxn (fun a ha hx2 => ?_) (fun hx2 => ?_)⟩
  · have := h.clN_apart (by omega) hi hx2 hx; omega
  · obtain ⟨j, hj, e⟩ := List.getElem_of_mem hx2
    rw [List.length_take] at hj
    rw [List.getElem_take] at e
    have e2 : (clN Z n i).getD j 0 = (clN Z n i).getD k 0 := by
      rw [List.getD_eq_getElem?_getD, List.getElem?_eq_getElem (by omega)]; exact e
    have := getD_inj cn (by omega) hk e2
    omega
theorem ZCl.mk_put (h : ZCl n Z) {i k : Nat} {M : List Nat} {cnt : Nat} (hm : Mk n Z i k M cnt) (hi : i < (classesL Z n).length) (hk : k < (clN Z n i).length) :
    Mk n Z i (k + 1) (M.set ((clN Z n i).getD k 0) (i + 1)) (cnt + 1) := by
  obtain ⟨hxn, _⟩ := h.mk_zero hm hi hk
  have hx : (clN Z n i).getD k 0 ∈ clN Z n i := getD_mem hk
  have htake : (clN Z n i).take (k + 1) = (clN Z n i).take k ++ [(clN Z n i).getD k 0] := by
    rw [List.take_succ_eq_append_getElem hk, List.getD_eq_getElem?_getD, List.getElem?_eq_getElem hk]; rfl
  have hget : ∀ y, (M.set ((clN Z n i).getD k 0) (i + 1)).getD y 0 = if y = (clN Z n i).getD k 0 then i + 1 else M.getD y 0 := fun y => by
    rw [List.getD_eq_getElem?_getD, List.getElem?_set]
    by_cases e : (clN Z n i).getD k 0 = y
    · rw [if_pos e, if_pos e.symm, if_pos (by rw [hm.len]; omega)]; rfl
    · rw [if_neg e, if_neg (fun e2 => e e2.symm), List.getD_eq_getElem?_getD]
  refine ⟨by rw [List.length_set, hm.len], fun a y ha hy => ?_, fun y hy => ?_, fun y hyn h1 h2 => ?_, by rw [hm.cnt]; omega⟩
  · rw [hget, if_neg (fun e => ?_)]
    · exact hm.done a y ha hy
    · subst e
      have := h.clN_apart (by omega) hi hy hx; omega
  · rw [hget]
    split
    · rfl
    · rename_i e
      rw [htake, List.mem_append] at hy
      rcases hy with hy | hy
      · exact hm.part y hy
      · exact absurd (by simpa using hy) e
  · rw [htake, List.mem_append] at h2
    rw [hget, if_neg (fun e => h2 (.inr (by simp [e])))]
    exact hm.rest y hyn h1 (fun e => h2 (.inl e))
theorem Mk.next {i : Nat} {M : List Nat} {cnt : Nat} (hm : Mk n Z i (clN Z n i).length M cnt) (hi : i < (classesL Z n).length) : Mk n Z (i + 1) 0 M cnt := by
  have hp := hm.part
  have hr := hm.rest
  rw [List.take_length] at hp hr
  refine ⟨hm.len, fun a x ha hx => ?_, fun x hx => by simp at hx, fun x hxn h1 _ => hr x hxn (fun a ha => h1 a (by omega)) (h1 i (by omega)), ?_⟩
  · by_cases e : a = i
    · subst e; exact hp x hx
    · exact hm.done a x (by omega) hx
  · rw [hm.cnt, List.take_succ_eq_append_getElem hi, List.map_append, List.sum_append]
    have : clN Z n i = (classesL Z n)[i] := by unfold clN; rw [List.getD_eq_getElem?_getD, List.getElem?_eq_getElem hi]; rfl
    rw [this]
    simp
theorem ZCl.mk_same (h : ZCl n Z) {M : List Nat} {cnt : Nat} (hm : Mk n Z (classesL Z n).length 0 M cnt) {x y : Nat} (hx : x ≤ n) (hy : y ≤ n) : M.getD x 0 = M.getD y 0 ↔ Tie Z x y := by
  obtain ⟨i, hi, hxi⟩ := h.clN_has hx
  obtain ⟨j, hj, hyj⟩ := h.clN_has hy
  rw [hm.done i x hi hxi, hm.done j y hj hyj, ← h.head_iff hx hy]
  have a := ((h.class_of (clN_mem hi)).2.1 x).1 hxi
  have b := ((h.class_of (clN_mem hj)).2.1 y).1 hyj
  rw [a.2, b.2]
  constructor
  · intro e
    have : i = j := by omega
    rw [this]
  · intro e
    rcases Nat.lt_trichotomy i j with q | q | q
    · have := h.clN_lt q hj; omega
    · omega
    · have := h.clN_lt q hi; omega
theorem flatten_length_nat (l : List (List Nat)) : l.flatten.length = (l.map List.length).sum := by simp [List.length_flatten]
theorem ZCl.mk_count (h : ZCl n Z) {M : List Nat} {cnt : Nat} (hm : Mk n Z (classesL Z n).length 0 M cnt) : cnt = n + 1 := by
  have e := hm.cnt
  rw [List.take_length, ← flatten_length_nat, Nat.add_zero] at e
  have hnd : (classesL Z n).flatten.Nodup := by
    unfold List.Nodup
    rw [List.pairwise_flatten]
    refine ⟨fun c hc => (h.class_of hc).2.2.2.1, h.classes_nodup.imp_of_mem (fun {c d} hc hd1 hne x hx y hy e => ?_)⟩
    subst e
    have a := ((h.class_of hc).2.1 x).1 hx
    have b := ((h.class_of hd1).2.1 x).1 hy
    exact hne (a.2.symm.trans b.2)
  have h1 : (classesL Z n).flatten.length ≤ (List.range (n + 1)).length := length_le_of_subset hnd (fun x hx => by
    rw [List.mem_flatten] at hx
    obtain ⟨c, hc, hxc⟩ := hx
    have := ((h.class_of hc).2.1 x).1 hxc
    exact List.mem_range.2 (by omega))
  have h2 : (List.range (n + 1)).length ≤ (classesL Z n).flatten.length := length_le_of_subset List.nodup_range (fun x hx => by
    have := List.mem_range.1 hx
    obtain ⟨c, hc, _, hxc⟩ := h.class_of_clock (show x ≤ n by omega)
    rw [List.mem_flatten]
    exact ⟨c, hc, hxc⟩)
  rw [List.length_range] at h1 h2
  omega
/-- A difference is settled, as the law asks it. -/
def settledB (a b : Int) : Bool := decide (a ≠ INF) && decide (b ≠ INF) && decide (a + b ≤ 2) && decide (a % 2 = 1) && decide (b % 2 = 1)
theorem ZCl.settled_iff (h : ZCl n Z) {x y : Nat} (hx : x ≤ n) (hy : y ≤ n) : settledB (cellN Z x y) (cellN Z y x) = true ↔ Tie Z x y := by
  unfold settledB
  simp only [Bool.and_eq_true, decide_eq_true_eq]
  constructor
  · rintro ⟨⟨⟨⟨h1, h2⟩, h3⟩, h4⟩, h5⟩
    refine ⟨h1, h2, ?_⟩
    have := (h.tri x y x hx hy hx h1 h2).2
    rw [h.diag x hx] at this
    unfold plus2 at this ⊢
    rw [if_pos (.inl h4)] at this ⊢
    omega
  · intro t
    have := t.odd
    exact ⟨⟨⟨⟨t.1, t.2.1⟩, by omega⟩, this.1⟩, this.2.1⟩
end
end Go.Proofs.Ytapfihlgemejiaa
