/- Plain: gnomonref25 by the program's words: classes clock by clock, the order of a class, what is needed. -/
import Derived.Test.YtapfihlgemejiaaP4
import Derived.Test.YtapfihlgemejiaaR16
namespace Go.Proofs.Ytapfihlgemejiaa
section
variable {n : Nat} {Z : List Int}
def plus25 (a b : Int) : Int := if a = INF ∨ b = INF then 1099511627776 else plus2 a b
theorem plus2_form (a b : Int) : plus2 a b = if a % 2 = 1 ∨ b % 2 = 1 then a + b - 1 else a + b := rfl
/-- The classes of the first m clocks, in the order of their heads. -/
def clsTo (Z : List Int) (m : Nat) : List (List Nat) := (headsL Z m m).map (memTo Z m)
theorem clsTo_all (Z : List Int) (n : Nat) : clsTo Z (n + 1) = classesL Z n := (classesL_eq Z n).symm
theorem ZCl.heads_form (h : ZCl n Z) {m : Nat} (hm : m ≤ n + 1) : headsL Z m m = (List.range m).filter fun y => decide (headOf Z y = y) := by
  unfold headsL
  apply List.filter_congr
  intro y hy
  have hy := List.mem_range.1 hy
  by_cases e : headOf Z y = y
  · have : y ∈ memTo Z m y := mem_memTo.2 ⟨hy, e⟩
    rw [decide_eq_true e]
    cases hq : memTo Z m y with
    | nil => rw [hq] at this; cases this
    | cons a l => rfl
  · rw [decide_eq_false e]
    cases hq : memTo Z m y with
    | nil => rfl
    | cons a l =>
      have : a ∈ memTo Z m y := by rw [hq]; exact List.mem_cons_self
      obtain ⟨h1, h2⟩ := mem_memTo.1 this
      exact absurd (by rw [← h2]; exact h.head_head (by omega)) e
theorem ZCl.memTo_hd (h : ZCl n Z) {m y : Nat} (hm : m ≤ n + 1) (hy : y < m) (e : headOf Z y = y) : hd (memTo Z m y) = y := by
  refine hd_of_sorted (memTo_sorted _ _) (mem_memTo.2 ⟨hy, e⟩) (fun x hx => ?_)
  obtain ⟨h1, h2⟩ := mem_memTo.1 hx
  rw [← h2]
  exact (h.head_spec (by omega : x ≤ n)).1
theorem clsTo_get (Z : List Int) (m k : Nat) (hk : k < (clsTo Z m).length) : ∃ y, (headsL Z m m)[k]? = some y ∧ (clsTo Z m).getD k [] = memTo Z m y := by
  unfold clsTo at hk ⊢
  rw [List.length_map] at hk
  refine ⟨(headsL Z m m)[k], List.getElem?_eq_getElem hk, ?_⟩
  rw [List.getD_eq_getElem?_getD, List.getElem?_map, List.getElem?_eq_getElem hk]; rfl
/-- A class so far: its head. -/
theorem ZCl.cls_hd (h : ZCl n Z) {m k : Nat} (hm : m ≤ n + 1) (hk : k < (clsTo Z m).length) : ∃ y, y < m ∧ headOf Z y = y ∧ (headsL Z m m)[k]? = some y ∧ (clsTo Z m).getD k [] = memTo Z m y ∧ hd ((clsTo Z m).getD k []) = y := by
  obtain ⟨y, hy, e⟩ := clsTo_get Z m k hk
  have hmem := List.mem_of_getElem? hy
  rw [h.heads_form hm, List.mem_filter, List.mem_range] at hmem
  have e2 := of_decide_eq_true hmem.2
  exact ⟨y, hmem.1, e2, hy, e, by rw [e]; exact h.memTo_hd hm hmem.1 e2⟩
theorem clsTo_length_le (Z : List Int) (m : Nat) : (clsTo Z m).length ≤ m := by
  unfold clsTo headsL
  rw [List.length_map]
  exact Nat.le_trans (List.length_filter_le _ _) (by simp)
theorem clsTo_rows (Z : List Int) (m k : Nat) : ((clsTo Z m).getD k []).length ≤ m := by
  by_cases hk : k < (clsTo Z m).length
  · obtain ⟨y, _, e⟩ := clsTo_get Z m k hk
    rw [e]; exact memTo_length Z m y
  · rw [List.getD_eq_getElem?_getD, List.getElem?_eq_none (by omega)]; exact Nat.zero_le _
theorem ZCl.cls_pos (h : ZCl n Z) {m k : Nat} (hm : m ≤ n + 1) (hk : k < (clsTo Z m).length) : 0 < ((clsTo Z m).getD k []).length := by
  obtain ⟨y, h1, h2, _, h4, _⟩ := h.cls_hd hm hk
  rw [h4]
  exact List.length_pos_of_mem (mem_memTo.2 ⟨h1, h2⟩)
theorem cls_le {m k i : Nat} (hm : m ≤ n + 1) : ((clsTo Z m).getD k []).getD i 0 ≤ n := by
  by_cases hk : k < (clsTo Z m).length
  · obtain ⟨y, _, e⟩ := clsTo_get Z m k hk
    rw [e]
    rcases getD_mem_or (l := memTo Z m y) i with h | h
    · omega
    · have := (mem_memTo.1 h).1; omega
  · rw [List.getD_eq_getElem?_getD (l := clsTo Z m), List.getElem?_eq_none (by omega)]
    simp
/-- Does clock m belong to class k? -/
theorem ZCl.tie25 (h : ZCl n Z) {x y : Nat} (hx : x ≤ n) (hy : y ≤ n) : plus25 (cellN Z x y) (cellN Z y x) ≤ 1 ↔ Tie Z x y := by
  unfold plus25 Tie
  by_cases h1 : cellN Z x y = INF
  · rw [if_pos (.inl h1)]
    exact ⟨fun e => by omega, fun e => absurd h1 e.1⟩
  · by_cases h2 : cellN Z y x = INF
    · rw [if_pos (.inr h2)]
      exact ⟨fun e => by omega, fun e => absurd h2 e.2.1⟩
    · rw [if_neg (by rintro (e | e); exact h1 e; exact h2 e)]
      have := (h.tri x y x hx hy hx h1 h2).2
      rw [h.diag x hx] at this
      exact ⟨fun e => ⟨h1, h2, by omega⟩, fun e => by omega⟩
theorem ZCl.joins (h : ZCl n Z) {m k : Nat} (hm : m ≤ n) (hk : k < (clsTo Z m).length) :
    plus25 (cellN Z m (hd ((clsTo Z m).getD k []))) (cellN Z (hd ((clsTo Z m).getD k [])) m) ≤ 1 ↔ (headsL Z m m)[k]? = some (headOf Z m) := by
  obtain ⟨y, h1, h2, h3, h4, h5⟩ := h.cls_hd (by omega : m ≤ n + 1) hk
  rw [h5, h.tie25 hm (by omega), ← h.head_iff hm (by omega), h2, h3]
  exact ⟨fun e => by rw [e], fun e => (Option.some.inj e).symm⟩
theorem clsTo_join (h : ZCl n Z) {m k : Nat} (hm : m ≤ n) (e : (headsL Z m m)[k]? = some (headOf Z m)) : clsTo Z (m + 1) = (clsTo Z m).set k ((clsTo Z m).getD k [] ++ [m]) := by
  have hne : headOf Z m ≠ m := fun e2 => by
    have := List.mem_of_getElem? e
    rw [h.heads_form (by omega), List.mem_filter, List.mem_range] at this
    omega
  have hh : headsL Z (m + 1) (m + 1) = headsL Z m m := by
    rw [h.heads_form (by omega), h.heads_form (by omega), List.range_succ, List.filter_append]
    simp [hne]
  have hk' : k < (headsL Z m m).length := (List.getElem?_eq_some_iff.1 e).1
  apply List.ext_getElem?
  intro i
  unfold clsTo
  rw [hh, List.getElem?_map, List.getElem?_set, List.getElem?_map, List.length_map]
  by_cases hi : k = i
  · subst hi
    rw [if_pos rfl, if_pos hk', e]
    simp only [Option.map_some, Option.some.injEq]
    rw [memTo_succ, if_pos rfl, List.getD_eq_getElem?_getD, List.getElem?_map, e]; rfl
  · rw [if_neg hi]
    cases hq : (headsL Z m m)[i]? with
    | none => rfl
    | some y =>
      simp only [Option.map_some, Option.some.injEq]
      rw [memTo_succ, if_neg, List.append_nil]
      intro e2
      rw [e2] at e
      exact hi ((List.getElem?_inj hk' (headsL_nodup Z _ _)).1 (e.trans hq.symm))
theorem clsTo_new (h : ZCl n Z) {m : Nat} (hm : m ≤ n) (e : ∀ k, k < (clsTo Z m).length → (headsL Z m m)[k]? ≠ some (headOf Z m)) : clsTo Z (m + 1) = clsTo Z m ++ [[m]] := by
  have hlen : (clsTo Z m).length = (headsL Z m m).length := by unfold clsTo; rw [List.length_map]
  have hnot : headOf Z m ∉ headsL Z m m := fun hmem => by
    obtain ⟨k, hk, e2⟩ := List.getElem_of_mem hmem
    exact e k (by omega) (by rw [List.getElem?_eq_getElem hk, e2])
  have hm2 : headOf Z m = m := by
    have h1 := (h.head_spec hm).1
    rcases Nat.lt_or_ge (headOf Z m) m with h2 | h2
    · refine absurd ?_ hnot
      rw [h.heads_form (by omega), List.mem_filter, List.mem_range]
      exact ⟨h2, decide_eq_true (h.head_head hm)⟩
    · omega
  have hh : headsL Z (m + 1) (m + 1) = headsL Z m m ++ [m] := by
    rw [h.heads_form (by omega), h.heads_form (by omega), List.range_succ, List.filter_append]
    simp [hm2]
  unfold clsTo
  rw [hh, List.map_append]
  congr 1
  · apply List.map_congr_left
    intro y hy
    rw [memTo_succ, if_neg, List.append_nil]
    intro e2
    rw [e2] at hnot
    exact hnot hy
  · simp only [List.map_cons, List.map_nil]
    rw [memTo_succ, if_pos hm2, memTo_nil Z (Nat.le_refl m)]; rfl

/-! The order of a class. -/
/-- Of the class of 0: the clocks that are 0, then the others. -/
def zeroB (Z : List Int) (x : Nat) : Bool := decide (cellN Z 0 x = 1) && decide (cellN Z x 0 = 1)
def orderedL (Z : List Int) (c : List Nat) : List Nat := if hd c = 0 then [0] ++ (c.tail.filter fun x => zeroB Z x) ++ (c.tail.filter fun x => !zeroB Z x) else c
theorem ZCl.ordered_eq (h : ZCl n Z) {c : List Nat} (hc : c ∈ classesL Z n) : orderedL Z c = roundL Z c := by
  obtain ⟨hh, hmem, hsort, hnd, hin⟩ := h.class_of hc
  unfold orderedL
  by_cases h0 : hd c = 0
  · rw [if_pos h0, roundL_eq Z c h0]
    cases c with
    | nil => cases hin
    | cons a t =>
      have ha : a = 0 := h0
      subst ha
      have hpos : ∀ x, x ∈ t → x ≠ 0 ∧ Tie Z 0 x ∧ x ≤ n := fun x hx => by
        have h1 := (List.pairwise_cons.1 hsort).1 x hx
        have h2 := (hmem x).1 (List.mem_cons_of_mem _ hx)
        refine ⟨by omega, ?_, h2.1⟩
        exact (h.head_iff (Nat.zero_le _) h2.1).1 (by rw [h2.2]; exact hh.2)
      have hr : ∀ x, x ∈ t → rankI Z x = if zeroB Z x = true then 1 else 2 := fun x hx => by
        obtain ⟨h1, h2, _⟩ := hpos x hx
        obtain ⟨o1, o2, o3⟩ := h2.odd
        unfold rankI zeroB
        rw [if_neg h1]
        by_cases e : cellN Z 0 x = 1
        · have e2 : cellN Z x 0 = 1 := by omega
          rw [if_pos ⟨by omega, by omega⟩, e, e2]; rfl
        · rw [decide_eq_false e, if_neg (by omega)]; rfl
      show [0] ++ (t.filter fun x => zeroB Z x) ++ (t.filter fun x => !zeroB Z x) = _
      unfold byRank
      have r0 : rankI Z 0 = 0 := rfl
      have f0 : ((0 :: t).filter fun x => rankI Z x = 0) = [0] := by
        rw [List.filter_cons, r0, if_pos (by decide)]
        congr 1
        rw [List.filter_eq_nil_iff]
        intro x hx
        rw [hr x hx]
        split <;> simp
      have f1 : ((0 :: t).filter fun x => rankI Z x = 1) = t.filter fun x => zeroB Z x := by
        rw [List.filter_cons, r0, if_neg (by decide)]
        apply List.filter_congr
        intro x hx
        rw [hr x hx]
        cases zeroB Z x <;> rfl
      have f2 : ((0 :: t).filter fun x => rankI Z x = 2) = t.filter fun x => !zeroB Z x := by
        rw [List.filter_cons, r0, if_neg (by decide)]
        apply List.filter_congr
        intro x hx
        rw [hr x hx]
        cases zeroB Z x <;> rfl
      rw [f0, f1, f2]
  · rw [if_neg h0]
    unfold roundL
    rw [if_neg (show ¬ c.getD 0 0 = 0 from h0)]
/-! What is needed. -/
theorem plus25_le {x y b : Int} (hb2 : b ≤ 536870913) : plus25 x y ≤ b ↔ x ≠ INF ∧ y ≠ INF ∧ plus2 x y ≤ b := by
  unfold plus25
  by_cases h1 : x = INF
  · rw [if_pos (.inl h1)]
    exact ⟨fun h => by omega, fun h => absurd h1 h.1⟩
  · by_cases h2 : y = INF
    · rw [if_pos (.inr h2)]
      exact ⟨fun h => by omega, fun h => absurd h2 h.2.1⟩
    · rw [if_neg (by rintro (e | e); exact h1 e; exact h2 e)]
      exact ⟨fun h => ⟨h1, h2, h⟩, fun h => h.2.2⟩
/-- The document's test: class a's head, class b's. -/
def need25 (Z : List Int) (cls : List (List Nat)) (a b : Nat) : Bool :=
  !(decide (a = b) || decide (cellN Z (hd (cls.getD a [])) (hd (cls.getD b [])) = INF) || (decide (hd (cls.getD a []) = 0) && (cls.getD b []).any fun x => decide (cellN Z 0 x = 1))) &&
    !(List.range cls.length).any fun c => decide (c ≠ a) && decide (c ≠ b) && decide (plus25 (cellN Z (hd (cls.getD a [])) (hd (cls.getD c []))) (cellN Z (hd (cls.getD c [])) (hd (cls.getD b []))) ≤ cellN Z (hd (cls.getD a [])) (hd (cls.getD b [])))
theorem ZCl.hd_inj (h : ZCl n Z) {a b : Nat} (ha : a < (classesL Z n).length) (hb : b < (classesL Z n).length) : hd (clN Z n a) = hd (clN Z n b) ↔ a = b := by
  refine ⟨fun e => ?_, fun e => by rw [e]⟩
  rcases Nat.lt_trichotomy a b with h1 | h1 | h1
  · have := h.clN_lt h1 hb; omega
  · exact h1
  · have := h.clN_lt h1 ha; omega
theorem ZCl.need_eq (h : ZCl n Z) {a b : Nat} (ha : a < (classesL Z n).length) (hb : b < (classesL Z n).length) :
    need25 Z (classesL Z n) a b = (decide (hd (clN Z n a) ≠ hd (clN Z n b)) && neededB Z (hd (clN Z n a)) (clN Z n b) (classesL Z n)) := by
  have hia := (h.class_of (clN_mem ha)).1.1
  have hib := (h.class_of (clN_mem hb)).1.1
  unfold need25 neededB
  rw [show (classesL Z n).getD a [] = clN Z n a from rfl, show (classesL Z n).getD b [] = clN Z n b from rfl]
  by_cases e : a = b
  · subst e
    simp
  · have hne : hd (clN Z n a) ≠ hd (clN Z n b) := fun e2 => e ((h.hd_inj ha hb).1 e2)
    rw [decide_eq_false e, decide_eq_true hne, Bool.true_and, Bool.false_or]
    by_cases hI : cellN Z (hd (clN Z n a)) (hd (clN Z n b)) = INF
    · rw [decide_eq_true hI]
      have : decide (cellN Z (hd (clN Z n a)) (hd (clN Z n b)) ≠ 2147483647) = false := decide_eq_false (fun k => k hI)
      rw [this]; rfl
    · rw [decide_eq_false hI]
      have : decide (cellN Z (hd (clN Z n a)) (hd (clN Z n b)) ≠ 2147483647) = true := decide_eq_true hI
      rw [this, Bool.true_and, Bool.false_or]
      congr 1
      congr 1
      rw [Bool.eq_iff_iff, List.any_eq_true, List.any_eq_true]
      have hr := (h.rng _ _ hia hib).resolve_left hI
      constructor
      · rintro ⟨c, hc, ht⟩
        have hc := List.mem_range.1 hc
        refine ⟨clN Z n c, clN_mem hc, ?_⟩
        have hic := (h.class_of (clN_mem hc)).1.1
        simp only [Bool.and_eq_true, decide_eq_true_eq] at ht ⊢
        refine ⟨⟨fun e2 => ht.1.1 ((h.hd_inj hc ha).1 e2), fun e2 => ht.1.2 ((h.hd_inj hc hb).1 e2)⟩, ?_⟩
        exact (h.way_le hia hic hib hr.1 hr.2).2 ((plus25_le hr.2).1 ht.2)
      · rintro ⟨d, hdm, ht⟩
        obtain ⟨c, hc, rfl⟩ := List.getElem_of_mem hdm
        refine ⟨c, List.mem_range.2 hc, ?_⟩
        have e2 : (classesL Z n)[c] = clN Z n c := by unfold clN; rw [List.getD_eq_getElem?_getD, List.getElem?_eq_getElem hc]; rfl
        rw [e2] at ht hdm
        have hic := (h.class_of hdm).1.1
        simp only [Bool.and_eq_true, decide_eq_true_eq] at ht ⊢
        refine ⟨⟨fun e3 => ht.1.1 (by rw [e3]), fun e3 => ht.1.2 (by rw [e3])⟩, ?_⟩
        exact (plus25_le hr.2).2 ((h.way_le hia hic hib hr.1 hr.2).1 ht.2)
end
end Go.Proofs.Ytapfihlgemejiaa
