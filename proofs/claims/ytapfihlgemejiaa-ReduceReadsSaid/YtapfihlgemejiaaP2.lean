/- Plain: the classes of a closed zone: what hangs together, heads. | Plain: the round of a class; a walk that leaves a set; the few bounds are the fewest. -/
import Derived.Test.YtapfihlgemejiaaP0
import Derived.Test.YtapfihlgemejiaaR3
import Derived.Test.YtapfihlgemejiaaR11
-- Plain: the classes of a closed zone: what hangs together, heads.
namespace Go.Proofs.Ytapfihlgemejiaa

theorem enc_plus2 (x y : Int) : enc (x / 2 + y / 2) (decide (x % 2 = 1) && decide (y % 2 = 1)) = plus2 x y := by
  unfold enc plus2
  by_cases h1 : x % 2 = 1 <;> by_cases h2 : y % 2 = 1 <;> simp [h1, h2] <;> omega
/-- The way through a third clock, of cells in bounds: none, or the sum. -/
theorem wayI_le {x y b : Int} (hb : -536870912 ≤ b) (hb2 : b ≤ 536870913) (hlow : x ≠ INF → y ≠ INF → -536870912 ≤ plus2 x y) :
    wayI x y ≤ b ↔ x ≠ INF ∧ y ≠ INF ∧ plus2 x y ≤ b := by
  have hn := plus2_num x y
  unfold wayI
  by_cases h1 : x = 2147483647
  · rw [if_pos (.inl h1)]
    constructor
    · intro h; omega
    · intro h; exact absurd h1 h.1
  · by_cases h2 : y = 2147483647
    · rw [if_pos (.inr h2)]
      constructor
      · intro h; omega
      · intro h; exact absurd h2 h.2.1
    · rw [if_neg (by rintro (h | h); exact h1 h; exact h2 h)]
      have hl := hlow h1 h2
      split
      · rename_i h3
        constructor
        · intro h; omega
        · intro h; have := h.2.2; omega
      · rw [enc_plus2]
        exact ⟨fun h => ⟨h1, h2, h⟩, fun h => h.2.2⟩

section
variable {n : Nat} {Z : List Int}
theorem ZCl.low (h : ZCl n Z) {x k y : Nat} (hx : x ≤ n) (hk : k ≤ n) (hy : y ≤ n) (h1 : cellN Z x k ≠ INF) (h2 : cellN Z k y ≠ INF) : -536870912 ≤ plus2 (cellN Z x k) (cellN Z k y) := by
  obtain ⟨t1, t2⟩ := h.tri x k y hx hk hy h1 h2
  have := (h.rng x y hx hy).resolve_left t1
  omega
theorem ZCl.way_le (h : ZCl n Z) {x k y : Nat} (hx : x ≤ n) (hk : k ≤ n) (hy : y ≤ n) {b : Int} (hb : -536870912 ≤ b) (hb2 : b ≤ 536870913) :
    wayI (cellN Z x k) (cellN Z k y) ≤ b ↔ cellN Z x k ≠ INF ∧ cellN Z k y ≠ INF ∧ plus2 (cellN Z x k) (cellN Z k y) ≤ b :=
  wayI_le hb hb2 (fun h1 h2 => h.low hx hk hy h1 h2)
/-- Do two clocks hang together? -/
def Tie (Z : List Int) (x y : Nat) : Prop := cellN Z x y ≠ INF ∧ cellN Z y x ≠ INF ∧ plus2 (cellN Z x y) (cellN Z y x) = 1
theorem ZCl.tied_iff (h : ZCl n Z) {x y : Nat} (hx : x ≤ n) (hy : y ≤ n) : tied Z x y = true ↔ Tie Z x y := by
  unfold tied Tie
  rw [decide_eq_true_iff, h.way_le hx hy hx (by omega) (by omega)]
  constructor
  · rintro ⟨h1, h2, h3⟩
    refine ⟨h1, h2, ?_⟩
    have := (h.tri x y x hx hy hx h1 h2).2
    rw [h.diag x hx] at this
    omega
  · rintro ⟨h1, h2, h3⟩
    exact ⟨h1, h2, by omega⟩
theorem ZCl.tie_refl (h : ZCl n Z) {x : Nat} (hx : x ≤ n) : Tie Z x x := by
  unfold Tie
  rw [h.diag x hx]
  decide
theorem Tie.symm {x y : Nat} (h : Tie Z x y) : Tie Z y x := ⟨h.2.1, h.1, by rw [plus2_comm]; exact h.2.2⟩
theorem ZCl.tie_trans (h : ZCl n Z) {x y z : Nat} (hx : x ≤ n) (hy : y ≤ n) (hz : z ≤ n) (h1 : Tie Z x y) (h2 : Tie Z y z) : Tie Z x z := by
  obtain ⟨a1, a2, a3⟩ := h1
  obtain ⟨b1, b2, b3⟩ := h2
  obtain ⟨f1, t1⟩ := h.tri x y z hx hy hz a1 b1
  obtain ⟨f2, t2⟩ := h.tri z y x hz hy hx b2 a2
  refine ⟨f1, f2, ?_⟩
  have l := (h.tri x z x hx hz hx f1 f2).2
  rw [h.diag x hx] at l
  have u := plus2_mono t1 t2
  have e : plus2 (plus2 (cellN Z x y) (cellN Z y z)) (plus2 (cellN Z z y) (cellN Z y x)) = 1 := by
    rw [plus2_assoc, ← plus2_assoc (cellN Z y z), b3, one_plus2, a3]
  omega
/-- Of what hangs together both bounds are reached, one the other's opposite. -/
theorem Tie.odd {x y : Nat} (h : Tie Z x y) : cellN Z x y % 2 = 1 ∧ cellN Z y x % 2 = 1 ∧ cellN Z x y + cellN Z y x = 2 := by
  have h3 := h.2.2
  have h4 := (plus2_odd (cellN Z x y) (cellN Z y x)).1 (by omega)
  unfold plus2 at h3
  rw [if_pos (.inl h4.1)] at h3
  exact ⟨h4.1, h4.2, by omega⟩
/-- In a zone a tie shifts a bound. -/
theorem ZCl.shiftL (h : ZCl n Z) {x y z : Nat} (hx : x ≤ n) (hy : y ≤ n) (hz : z ≤ n) (ht : Tie Z x y) : (cellN Z x z = INF ↔ cellN Z y z = INF) ∧ (cellN Z y z ≠ INF → cellN Z x z = plus2 (cellN Z x y) (cellN Z y z)) := by
  have key : cellN Z y z ≠ INF → cellN Z x z ≠ INF ∧ cellN Z x z = plus2 (cellN Z x y) (cellN Z y z) := fun hne => by
    obtain ⟨f1, t1⟩ := h.tri x y z hx hy hz ht.1 hne
    obtain ⟨f2, t2⟩ := h.tri y x z hy hx hz ht.2.1 f1
    refine ⟨f1, ?_⟩
    have u := plus2_mono (Int.le_refl (cellN Z x y)) t2
    rw [← plus2_assoc, ht.2.2, one_plus2] at u
    omega
  have key2 : cellN Z x z ≠ INF → cellN Z y z ≠ INF := fun hne => (h.tri y x z hy hx hz ht.2.1 hne).1
  refine ⟨⟨fun e => ?_, fun e => ?_⟩, fun hne => (key hne).2⟩
  · by_cases e2 : cellN Z y z = INF
    · exact e2
    · exact absurd e (key e2).1
  · by_cases e2 : cellN Z x z = INF
    · exact e2
    · exact absurd e (key2 e2)
theorem ZCl.shiftR (h : ZCl n Z) {x y z : Nat} (hx : x ≤ n) (hy : y ≤ n) (hz : z ≤ n) (ht : Tie Z x y) : (cellN Z z x = INF ↔ cellN Z z y = INF) ∧ (cellN Z z y ≠ INF → cellN Z z x = plus2 (cellN Z z y) (cellN Z y x)) := by
  have key : cellN Z z y ≠ INF → cellN Z z x ≠ INF ∧ cellN Z z x = plus2 (cellN Z z y) (cellN Z y x) := fun hne => by
    obtain ⟨f1, t1⟩ := h.tri z y x hz hy hx hne ht.2.1
    obtain ⟨f2, t2⟩ := h.tri z x y hz hx hy f1 ht.1
    refine ⟨f1, ?_⟩
    have u := plus2_mono t2 (Int.le_refl (cellN Z y x))
    rw [plus2_assoc, ht.2.2, plus2_one] at u
    omega
  have key2 : cellN Z z x ≠ INF → cellN Z z y ≠ INF := fun hne => (h.tri z x y hz hx hy hne ht.1).1
  refine ⟨⟨fun e => ?_, fun e => ?_⟩, fun hne => (key hne).2⟩
  · by_cases e2 : cellN Z z y = INF
    · exact e2
    · exact absurd e (key e2).1
  · by_cases e2 : cellN Z z x = INF
    · exact e2
    · exact absurd e (key2 e2)

theorem firstTied_is {x h : Nat} (e : firstTied Z x = some h) : h < x ∧ tied Z x h = true ∧ ∀ g, g < h → tied Z x g = false := by
  refine ⟨firstTied_lt e, firstTied_tied e, fun g hg => ?_⟩
  unfold firstTied at e
  rw [List.find?_eq_some_iff_getElem] at e
  obtain ⟨_, i, hi, he, hb⟩ := e
  have e1 : i = h := by simpa using he
  subst e1
  have := hb g hg
  simpa using this
theorem firstTied_is_none {x : Nat} (e : firstTied Z x = none) : ∀ g, g < x → tied Z x g = false := fun g hg => by
  unfold firstTied at e
  rw [List.find?_eq_none] at e
  have := e g (by simpa using hg)
  simpa using this
theorem ZCl.head_spec (h : ZCl n Z) {x : Nat} (hx : x ≤ n) : headOf Z x ≤ x ∧ Tie Z x (headOf Z x) ∧ ∀ y, y ≤ n → Tie Z x y → headOf Z x ≤ y := by
  have hb : ∀ y, y ≤ n → x ≤ y → headOf Z x ≤ y := fun y _ hy => Nat.le_trans (headOf_le Z x x (Nat.le_refl _)) hy
  cases e : firstTied Z x with
  | none =>
    have e1 : headOf Z x = x := by rw [headOf_eq, e]
    have e2 := firstTied_is_none e
    rw [e1]
    refine ⟨Nat.le_refl _, h.tie_refl hx, fun y hy ht => ?_⟩
    rcases Nat.lt_or_ge y x with h1 | h1
    · have := (h.tied_iff hx hy).2 ht
      rw [e2 y h1] at this; cases this
    · exact h1
  | some g =>
    obtain ⟨g1, g2, g3⟩ := firstTied_is e
    have hg : g ≤ n := by omega
    have tg := (h.tied_iff hx hg).1 g2
    have e2 : firstTied Z g = none := by
      cases e3 : firstTied Z g with
      | none => rfl
      | some f =>
        obtain ⟨f1, f2, _⟩ := firstTied_is e3
        have tf := (h.tied_iff hg (by omega)).1 f2
        have := (h.tied_iff hx (by omega)).2 (h.tie_trans hx hg (by omega) tg tf)
        rw [g3 f f1] at this; cases this
    have e1 : headOf Z x = g := by
      rw [headOf_eq, e]
      show headOf Z g = g
      rw [headOf_eq, e2]
    rw [e1]
    refine ⟨by omega, tg, fun y hy ht => ?_⟩
    rcases Nat.lt_or_ge y g with h1 | h1
    · have := (h.tied_iff hx hy).2 ht
      rw [g3 y h1] at this; cases this
    · exact h1
theorem ZCl.head_iff (h : ZCl n Z) {x y : Nat} (hx : x ≤ n) (hy : y ≤ n) : headOf Z x = headOf Z y ↔ Tie Z x y := by
  obtain ⟨a1, a2, a3⟩ := h.head_spec hx
  obtain ⟨b1, b2, b3⟩ := h.head_spec hy
  constructor
  · intro e
    rw [← e] at b2
    exact h.tie_trans hx (by omega) hy a2 b2.symm
  · intro t
    have h1 := a3 (headOf Z y) (by omega) (h.tie_trans hx hy (by omega) t b2)
    have h2 := b3 (headOf Z x) (by omega) (h.tie_trans hy hx (by omega) t.symm a2)
    omega
theorem ZCl.head_head (h : ZCl n Z) {x : Nat} (hx : x ≤ n) : headOf Z (headOf Z x) = headOf Z x := by
  obtain ⟨a1, a2, _⟩ := h.head_spec hx
  exact ((h.head_iff hx (by omega)).2 a2).symm
theorem mem_memTo {m y x : Nat} : x ∈ memTo Z m y ↔ x < m ∧ headOf Z x = y := by
  unfold memTo
  rw [List.mem_filter, List.mem_range]
  simp
theorem memTo_sorted (m y : Nat) : (memTo Z m y).Pairwise (· < ·) := List.Pairwise.sublist List.filter_sublist List.pairwise_lt_range
theorem memTo_nodup (m y : Nat) : (memTo Z m y).Nodup := (memTo_sorted m y).imp (fun h => Nat.ne_of_lt h)
theorem hd_of_sorted {l : List Nat} {y : Nat} (hs : l.Pairwise (· < ·)) (hy : y ∈ l) (hm : ∀ x ∈ l, y ≤ x) : hd l = y := by
  cases l with
  | nil => cases hy
  | cons a l =>
    show a = y
    rcases List.mem_cons.1 hy with rfl | h1
    · rfl
    · have h2 := (List.pairwise_cons.1 hs).1 y h1
      have h3 := hm a (List.mem_cons_self)
      omega
/-- A clock that heads a class. -/
def IsHead (Z : List Int) (n y : Nat) : Prop := y ≤ n ∧ headOf Z y = y
theorem ZCl.hd_mem (h : ZCl n Z) {y : Nat} (hy : IsHead Z n y) : hd (memTo Z (n + 1) y) = y := by
  refine hd_of_sorted (memTo_sorted _ _) (mem_memTo.2 ⟨by have := hy.1; omega, hy.2⟩) (fun x hx => ?_)
  obtain ⟨h1, h2⟩ := mem_memTo.1 hx
  rw [← h2]
  exact (h.head_spec (by omega : x ≤ n)).1
theorem ZCl.mem_classes (h : ZCl n Z) {c : List Nat} : c ∈ classesL Z n ↔ ∃ y, IsHead Z n y ∧ c = memTo Z (n + 1) y := by
  rw [classesL_eq, List.mem_map]
  constructor
  · rintro ⟨y, hy, rfl⟩
    unfold headsL at hy
    rw [List.mem_filter, List.mem_range] at hy
    refine ⟨y, ?_, rfl⟩
    obtain ⟨x, hx⟩ : ∃ x, x ∈ memTo Z (n + 1) y := by
      cases hm : memTo Z (n + 1) y with
      | nil => rw [hm] at hy; simp at hy
      | cons a l => exact ⟨a, List.mem_cons_self⟩
    obtain ⟨h1, h2⟩ := mem_memTo.1 hx
    refine ⟨by omega, ?_⟩
    rw [← h2]
    exact h.head_head (by omega)
  · rintro ⟨y, hy, rfl⟩
    refine ⟨y, ?_, rfl⟩
    unfold headsL
    rw [List.mem_filter, List.mem_range]
    refine ⟨by have := hy.1; omega, ?_⟩
    have : y ∈ memTo Z (n + 1) y := mem_memTo.2 ⟨by have := hy.1; omega, hy.2⟩
    cases hm : memTo Z (n + 1) y with
    | nil => rw [hm] at this; cases this
    | cons a l => rfl
/-- A class, as its members see it. -/
theorem ZCl.class_of (h : ZCl n Z) {c : List Nat} (hc : c ∈ classesL Z n) : IsHead Z n (hd c) ∧ (∀ x, x ∈ c ↔ x ≤ n ∧ headOf Z x = hd c) ∧ c.Pairwise (· < ·) ∧ c.Nodup ∧ hd c ∈ c := by
  obtain ⟨y, hy, rfl⟩ := h.mem_classes.1 hc
  rw [h.hd_mem hy]
  refine ⟨hy, fun x => ?_, memTo_sorted _ _, memTo_nodup _ _, mem_memTo.2 ⟨by have := hy.1; omega, hy.2⟩⟩
  rw [mem_memTo]
  omega
theorem ZCl.classes_nodup (h : ZCl n Z) : (classesL Z n).Pairwise (fun c d => hd c ≠ hd d) := by
  rw [classesL_eq, List.pairwise_map]
  have h1 : (headsL Z (n + 1) (n + 1)).Nodup := headsL_nodup Z _ _
  refine h1.imp_of_mem (fun {a b} ha hb hne => ?_)
  have hh : ∀ y, y ∈ headsL Z (n + 1) (n + 1) → hd (memTo Z (n + 1) y) = y := fun y hy => by
    have : memTo Z (n + 1) y ∈ classesL Z n := by rw [classesL_eq]; exact List.mem_map_of_mem hy
    obtain ⟨y', hy', e⟩ := h.mem_classes.1 this
    have e2 := h.hd_mem hy'
    rw [← e] at e2
    have hyy : y ∈ memTo Z (n + 1) y → hd (memTo Z (n + 1) y) = y := fun hm => by
      have := (mem_memTo.1 hm).2
      refine hd_of_sorted (memTo_sorted _ _) hm (fun x hx => ?_)
      obtain ⟨h1, h2⟩ := mem_memTo.1 hx
      rw [← h2]
      exact (h.head_spec (by omega : x ≤ n)).1
    unfold headsL at hy
    rw [List.mem_filter, List.mem_range] at hy
    obtain ⟨x, hx⟩ : ∃ x, x ∈ memTo Z (n + 1) y := by
      cases hm : memTo Z (n + 1) y with
      | nil => rw [hm] at hy; simp at hy
      | cons a l => exact ⟨a, List.mem_cons_self⟩
    obtain ⟨h3, h4⟩ := mem_memTo.1 hx
    exact hyy (mem_memTo.2 ⟨hy.1, by rw [← h4]; exact h.head_head (by omega)⟩)
  rw [hh a ha, hh b hb]
  exact hne
theorem ZCl.class_of_clock (h : ZCl n Z) {x : Nat} (hx : x ≤ n) : ∃ c, c ∈ classesL Z n ∧ hd c = headOf Z x ∧ x ∈ c := by
  have hy : IsHead Z n (headOf Z x) := ⟨Nat.le_trans (h.head_spec hx).1 hx, h.head_head hx⟩
  exact ⟨_, h.mem_classes.2 ⟨_, hy, rfl⟩, h.hd_mem hy, mem_memTo.2 ⟨by omega, rfl⟩⟩
end
end Go.Proofs.Ytapfihlgemejiaa
-- Plain: the round of a class; a walk that leaves a set; the few bounds are the fewest.
namespace Go.Proofs.Ytapfihlgemejiaa

section
variable {n : Nat} {Z L : List Int}
theorem rank_cases (x : Nat) : rankI Z x = 0 ∨ rankI Z x = 1 ∨ rankI Z x = 2 := by
  unfold rankI; split
  · exact .inl rfl
  · split
    · exact .inr (.inl rfl)
    · exact .inr (.inr rfl)
theorem mem_roundL_iff {c : List Nat} {x : Nat} : x ∈ roundL Z c ↔ x ∈ c := by
  unfold roundL
  split
  · simp only [List.mem_append, List.mem_filter, decide_eq_true_eq]
    have := rank_cases (Z := Z) x
    constructor
    · rintro ((h | h) | h) <;> exact h.1
    · intro h
      rcases this with r | r | r
      · exact .inl (.inl ⟨h, r⟩)
      · exact .inl (.inr ⟨h, r⟩)
      · exact .inr ⟨h, r⟩
  · rfl
theorem roundL_nodup {c : List Nat} (h : c.Nodup) : (roundL Z c).Nodup := by
  unfold roundL
  split
  · rw [List.nodup_append, List.nodup_append]
    refine ⟨⟨h.sublist List.filter_sublist, h.sublist List.filter_sublist, ?_⟩, h.sublist List.filter_sublist, ?_⟩
    · intro a ha b hb e
      simp only [List.mem_filter, decide_eq_true_eq] at ha hb
      subst e; omega
    · intro a ha b hb e
      simp only [List.mem_append, List.mem_filter, decide_eq_true_eq] at ha hb
      subst e
      rcases ha with ha | ha <;> omega
  · exact h
theorem rp_mem {l : List Nat} {e : Nat × Nat} (h : e ∈ roundPuts Z l) : ∃ t, t < l.length ∧ 1 < l.length ∧ e.1 = l.getD t 0 ∧ e.2 = l.getD ((t + 1) % l.length) 0 ∧ (e.1 ≠ 0 ∨ cellN Z 0 e.2 ≠ 1) := by
  unfold roundPuts at h
  rw [List.mem_filterMap] at h
  obtain ⟨t, ht, h2⟩ := h
  split at h2
  · rename_i hc
    simp only [Option.some.injEq] at h2
    subst h2
    exact ⟨t, List.mem_range.1 ht, hc.1, rfl, rfl, hc.2⟩
  · cases h2
theorem rp_fst (l : List Nat) : ∀ t, t ≤ l.length → List.Sublist ((rpTo Z l t).map Prod.fst) (l.take t)
  | 0, _ => by simp [rpTo]
  | t + 1, h => by
    have ih := rp_fst l t (by omega)
    rw [List.take_succ_eq_append_getElem (by omega : t < l.length)]
    by_cases hc : 1 < l.length ∧ (l.getD t 0 ≠ 0 ∨ cellN Z 0 (l.getD ((t + 1) % l.length) 0) ≠ 1)
    · rw [rpTo_yes hc, List.map_append]
      refine ih.append ?_
      have e : l.getD t 0 = l[t] := by rw [List.getD_eq_getElem?_getD, List.getElem?_eq_getElem (by omega)]; rfl
      show List.Sublist [l.getD t 0] [l[t]]
      rw [e]
      exact List.Sublist.refl _
    · rw [rpTo_no hc]
      exact ih.trans (List.sublist_append_left _ _)
theorem rp_nodup {l : List Nat} (h : l.Nodup) : ((roundPuts Z l).map Prod.fst).Nodup := by
  rw [← rpTo_all]
  have := rp_fst (Z := Z) l l.length (Nat.le_refl _)
  rw [List.take_length] at this
  exact h.sublist this
theorem getD_mem {l : List Nat} {t : Nat} (h : t < l.length) : l.getD t 0 ∈ l := by
  rw [List.getD_eq_getElem?_getD, List.getElem?_eq_getElem h]; exact List.getElem_mem h
theorem getD_inj {l : List Nat} (h : l.Nodup) {s t : Nat} (hs : s < l.length) (ht : t < l.length) (e : l.getD s 0 = l.getD t 0) : s = t := by
  rw [List.getD_eq_getElem?_getD, List.getD_eq_getElem?_getD, List.getElem?_eq_getElem hs, List.getElem?_eq_getElem ht] at e
  exact (List.getElem_inj h).1 (by simpa using e)
theorem next_ne {t m : Nat} (ht : t < m) (h1 : 1 < m) : (t + 1) % m ≠ t ∧ (t + 1) % m < m := by
  refine ⟨?_, Nat.mod_lt _ (by omega)⟩
  by_cases e : t + 1 = m
  · rw [e, Nat.mod_self]; omega
  · rw [Nat.mod_eq_of_lt (by omega)]; omega
theorem filter_zero : ∀ {c : List Nat}, 0 ∈ c → c.Nodup → (c.filter fun x => x == 0) = [0]
  | a :: c, h, hn => by
    obtain ⟨h1, h2⟩ := List.nodup_cons.1 hn
    by_cases h0 : a = 0
    · subst h0
      have : (c.filter fun x => x == 0) = [] := by
        rw [List.filter_eq_nil_iff]
        intro x hx e
        have : x = 0 := by simpa using e
        subst this
        exact h1 hx
      simp [this]
    · have hc : 0 ∈ c := by
        rcases List.mem_cons.1 h with e | e
        · exact absurd e.symm h0
        · exact e
      have := filter_zero hc h2
      simp [h0, this]
/-- What a bound of a class's round says. -/
theorem ZCl.rp_spec (h : ZCl n Z) {c : List Nat} (hc : c ∈ classesL Z n) {e : Nat × Nat} (he : e ∈ roundPuts Z (roundL Z c)) :
    e.1 ∈ c ∧ e.2 ∈ c ∧ e.1 ≠ e.2 ∧ (e.1 ≠ 0 ∨ ∀ k, k ∈ c → k ≠ 0 → cellN Z 0 k ≠ 1) := by
  obtain ⟨hh, hm, hs, hnd, hhd⟩ := h.class_of hc
  obtain ⟨t, ht, h1, e1, e2, h3⟩ := rp_mem he
  have hln := roundL_nodup (Z := Z) hnd
  obtain ⟨n1, n2⟩ := next_ne ht h1
  have m1 : e.1 ∈ c := mem_roundL_iff.1 (e1 ▸ getD_mem ht)
  have m2 : e.2 ∈ c := mem_roundL_iff.1 (e2 ▸ getD_mem n2)
  refine ⟨m1, m2, fun e => n1 (getD_inj hln n2 ht (by rw [← e1, ← e2, e])), ?_⟩
  by_cases hx : e.1 = 0
  · right
    intro k hk hk0 hk1
    have h0 : cellN Z 0 e.2 ≠ 1 := h3.resolve_left (fun h => h hx)
    apply h0
    rw [hx] at m1
    have ties : ∀ y, y ∈ c → Tie Z 0 y := fun y hy => by
      have a := (hm 0).1 m1
      have b := (hm y).1 hy
      exact (h.head_iff (by omega) b.1).1 (a.2.trans b.2.symm)
    have hhd0 : c.getD 0 0 = 0 := by
      have : hd c = 0 := by
        have := (hm 0).1 m1
        have h2 := (h.head_spec (Nat.zero_le n)).1
        omega
      exact this
    have rk : rankI Z k = 1 := by
      have := (ties k hk).odd
      unfold rankI
      rw [if_neg hk0, if_pos ⟨by omega, by omega⟩]
    have hf0 : (c.filter fun x => rankI Z x = 0) = [0] := by
      have e1 : (c.filter fun x => decide (rankI Z x = 0)) = c.filter fun x => x == 0 := by
        refine List.filter_congr (fun x _ => ?_)
        unfold rankI
        by_cases h0 : x = 0
        · simp [h0]
        · rw [if_neg h0]; split <;> simp [h0]
      rw [e1]
      exact filter_zero m1 hnd
    have hr : roundL Z c = 0 :: ((c.filter fun x => rankI Z x = 1) ++ (c.filter fun x => rankI Z x = 2)) := by
      unfold roundL
      rw [if_pos hhd0, hf0]
      rfl
    have ht0 : t = 0 := by
      refine getD_inj hln ht (by omega) ?_
      rw [← e1, hx, hr]; rfl
    subst ht0
    rw [Nat.mod_eq_of_lt h1, hr] at e2
    have hk2 : k ∈ c.filter fun x => rankI Z x = 1 := by simp [hk, rk]
    have hy : e.2 ∈ c.filter fun x => rankI Z x = 1 := by
      cases hq : (c.filter fun x => decide (rankI Z x = 1)) with
      | nil => rw [hq] at hk2; cases hk2
      | cons a r =>
        rw [hq] at e2
        have : e.2 = a := e2
        rw [this]; exact List.mem_cons_self
    simp only [List.mem_filter, decide_eq_true_eq] at hy
    have hr1 := hy.2
    unfold rankI at hr1
    split at hr1
    · omega
    · split at hr1
      · rename_i hle
        have := (ties e.2 m2).odd
        omega
      · omega
  · exact .inl hx

/-- A walk is no less than the zone's cell. -/
theorem Wk.ge (hz : ZCl n Z) (hle : ∀ p q, p ≤ n → q ≤ n → gt L (9 * p + q) ≠ NONE → cellN Z p q ≠ INF ∧ cellN Z p q ≤ gt L (9 * p + q)) {p q : Nat} {s : Int} (h : Wk n L p q s) :
    p ≤ n ∧ q ≤ n ∧ cellN Z p q ≠ INF ∧ cellN Z p q ≤ s := by
  induction h with
  | one hp hq e hn => subst e; exact ⟨hp, hq, hle _ _ hp hq hn⟩
  | cons hp hk e hn _ ih =>
    subst e
    obtain ⟨i1, i2, i3, i4⟩ := ih
    obtain ⟨a1, a2⟩ := hle _ _ hp hk hn
    obtain ⟨t1, t2⟩ := hz.tri _ _ _ hp hk i2 a1 i3
    exact ⟨hp, i2, t1, Int.le_trans t2 (plus2_mono a2 i4)⟩
/-- A walk that leaves a set has an edge by which it leaves it. -/
theorem Wk.leave (hz : ZCl n Z) (hle : ∀ p q, p ≤ n → q ≤ n → gt L (9 * p + q) ≠ NONE → cellN Z p q ≠ INF ∧ cellN Z p q ≤ gt L (9 * p + q)) (S : Nat → Prop) {p q : Nat} {s : Int} (h : Wk n L p q s) (hp : S p) (hq : ¬ S q) :
    ∃ x y a b, S x ∧ ¬ S y ∧ x ≤ n ∧ y ≤ n ∧ gt L (9 * x + y) ≠ NONE ∧ s = plus2 a (plus2 (gt L (9 * x + y)) b) ∧ cellN Z p x ≠ INF ∧ cellN Z p x ≤ a ∧ cellN Z y q ≠ INF ∧ cellN Z y q ≤ b := by
  induction h with
  | @one p q c hpn hqn e hn =>
    subst e
    exact ⟨p, q, 1, 1, hp, hq, hpn, hqn, hn, by rw [plus2_one, one_plus2], by rw [hz.diag p hpn]; decide, by rw [hz.diag p hpn]; omega, by rw [hz.diag q hqn]; decide, by rw [hz.diag q hqn]; omega⟩
  | @cons p k q a b hpn hk e hn hw ih =>
    subst e
    by_cases hS : S k
    · obtain ⟨x, y, a', b', s1, s2, s3, s4, s5, s6, s7, s8, s9, s10⟩ := ih hS hq
      obtain ⟨l1, l2⟩ := hle p k hpn hk hn
      obtain ⟨t1, t2⟩ := hz.tri p k x hpn hk s3 l1 s7
      exact ⟨x, y, plus2 (gt L (9 * p + k)) a', b', s1, s2, s3, s4, s5, by rw [s6, plus2_assoc], t1, Int.le_trans t2 (plus2_mono l2 s8), s9, s10⟩
    · obtain ⟨_, g2, g3, g4⟩ := hw.ge hz hle
      exact ⟨p, k, 1, b, hp, hS, hpn, hk, hn, by rw [one_plus2], by rw [hz.diag p hpn]; decide, by rw [hz.diag p hpn]; omega, g3, g4⟩
/-- The same, where the walk's sum is the zone's cell: the way by that edge is as short. -/
theorem leave_tight (hz : ZCl n Z) (hle : ∀ p q, p ≤ n → q ≤ n → gt L (9 * p + q) ≠ NONE → cellN Z p q ≠ INF ∧ cellN Z p q ≤ gt L (9 * p + q)) (S : Nat → Prop) {p q : Nat} (h : Wk n L p q (cellN Z p q)) (hp : S p) (hq : ¬ S q) :
    ∃ x y, S x ∧ ¬ S y ∧ x ≤ n ∧ y ≤ n ∧ gt L (9 * x + y) ≠ NONE ∧ cellN Z p x ≠ INF ∧ cellN Z x y ≠ INF ∧ cellN Z y q ≠ INF ∧ cellN Z p y ≠ INF ∧
      plus2 (cellN Z p y) (cellN Z y q) = cellN Z p q ∧ plus2 (cellN Z p x) (plus2 (gt L (9 * x + y)) (cellN Z y q)) = cellN Z p q := by
  obtain ⟨hpn, hqn, _, _⟩ := h.ge hz hle
  obtain ⟨x, y, a, b, s1, s2, s3, s4, s5, s6, s7, s8, s9, s10⟩ := h.leave hz hle S hp hq
  obtain ⟨l1, l2⟩ := hle x y s3 s4 s5
  obtain ⟨t1, t2⟩ := hz.tri p x y hpn s3 s4 s7 l1
  obtain ⟨_, t4⟩ := hz.tri p y q hpn s4 hqn t1 s9
  have u1 := plus2_mono t2 (Int.le_refl (cellN Z y q))
  have u2 : plus2 (plus2 (cellN Z p x) (cellN Z x y)) (cellN Z y q) ≤ plus2 (cellN Z p x) (plus2 (gt L (9 * x + y)) (cellN Z y q)) := by
    rw [plus2_assoc]; exact plus2_mono (Int.le_refl _) (plus2_mono l2 (Int.le_refl _))
  have u3 := plus2_mono s8 (plus2_mono (Int.le_refl (gt L (9 * x + y))) s10)
  rw [← s6] at u3
  exact ⟨x, y, s1, s2, s3, s4, s5, s7, l1, s9, t1, by omega, by omega⟩
end
end Go.Proofs.Ytapfihlgemejiaa
