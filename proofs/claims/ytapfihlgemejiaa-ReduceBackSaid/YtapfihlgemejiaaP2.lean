/- Plain: the classes of a closed zone: what hangs together, heads. -/
import Derived.Test.YtapfihlgemejiaaP0
import Derived.Test.YtapfihlgemejiaaR3
namespace Go.Proofs.Ytapfihlgemejiaa

theorem enc_plus2 (x y : Int) : enc (x / 2 + y / 2) (decide (x % 2 = 1) && decide (y % 2 = 1)) = plus2 x y := by
  unfold enc plus2
  by_cases h1 : x % 2 = 1 <;> by_cases h2 : y % 2 = 1 <;> simp [h1, h2] <;> omega
/-- The way through a third clock, of cells in bounds: none, or the sum. -/
theorem wayI_le {x y b : Int} (hb : -536870912 ≤ b) (hb2 : b ≤ 536870913) (hlow : x ≠ INF → y ≠ INF → -536870912 ≤ plus2 x y) :
    wayI x y ≤ b ↔ x ≠ INF ∧ y ≠ INF ∧ plus2 x y ≤ b := by
  have hn := plus2_num x y
  unfold wayI
  by_cases h1 : x = 2147483647
  · rw [if_pos (.inl h1)]
    constructor
    · intro h; omega
    · intro h; exact absurd h1 h.1
  · by_cases h2 : y = 2147483647
    · rw [if_pos (.inr h2)]
      constructor
      · intro h; omega
      · intro h; exact absurd h2 h.2.1
    · rw [if_neg (by rintro (h | h); exact h1 h; exact h2 h)]
      have hl := hlow h1 h2
      split
      · rename_i h3
        constructor
        · intro h; omega
        · intro h; have := h.2.2; omega
      · rw [enc_plus2]
        exact ⟨fun h => ⟨h1, h2, h⟩, fun h => h.2.2⟩

section
variable {n : Nat} {Z : List Int}
theorem ZCl.low (h : ZCl n Z) {x k y : Nat} (hx : x ≤ n) (hk : k ≤ n) (hy : y ≤ n) (h1 : cellN Z x k ≠ INF) (h2 : cellN Z k y ≠ INF) : -536870912 ≤ plus2 (cellN Z x k) (cellN Z k y) := by
  obtain ⟨t1, t2⟩ := h.tri x k y hx hk hy h1 h2
  have := (h.rng x y hx hy).resolve_left t1
  omega
theorem ZCl.way_le (h : ZCl n Z) {x k y : Nat} (hx : x ≤ n) (hk : k ≤ n) (hy : y ≤ n) {b : Int} (hb : -536870912 ≤ b) (hb2 : b ≤ 536870913) :
    wayI (cellN Z x k) (cellN Z k y) ≤ b ↔ cellN Z x k ≠ INF ∧ cellN Z k y ≠ INF ∧ plus2 (cellN Z x k) (cellN Z k y) ≤ b :=
  wayI_le hb hb2 (fun h1 h2 => h.low hx hk hy h1 h2)
/-- Do two clocks hang together? -/
def Tie (Z : List Int) (x y : Nat) : Prop := cellN Z x y ≠ INF ∧ cellN Z y x ≠ INF ∧ plus2 (cellN Z x y) (cellN Z y x) = 1
theorem ZCl.tied_iff (h : ZCl n Z) {x y : Nat} (hx : x ≤ n) (hy : y ≤ n) : tied Z x y = true ↔ Tie Z x y := by
  unfold tied Tie
  rw [decide_eq_true_iff, h.way_le hx hy hx (by omega) (by omega)]
  constructor
  · rintro ⟨h1, h2, h3⟩
    refine ⟨h1, h2, ?_⟩
    have := (h.tri x y x hx hy hx h1 h2).2
    rw [h.diag x hx] at this
    omega
  · rintro ⟨h1, h2, h3⟩
    exact ⟨h1, h2, by omega⟩
theorem ZCl.tie_refl (h : ZCl n Z) {x : Nat} (hx : x ≤ n) : Tie Z x x := by
  unfold Tie
  rw [h.diag x hx]
  decide
theorem Tie.symm {x y : Nat} (h : Tie Z x y) : Tie Z y x := ⟨h.2.1, h.1, by rw [plus2_comm]; exact h.2.2⟩
theorem ZCl.tie_trans (h : ZCl n Z) {x y z : Nat} (hx : x ≤ n) (hy : y ≤ n) (hz : z ≤ n) (h1 : Tie Z x y) (h2 : Tie Z y z) : Tie Z x z := by
  obtain ⟨a1, a2, a3⟩ := h1
  obtain ⟨b1, b2, b3⟩ := h2
  obtain ⟨f1, t1⟩ := h.tri x y z hx hy hz a1 b1
  obtain ⟨f2, t2⟩ := h.tri z y x hz hy hx b2 a2
  refine ⟨f1, f2, ?_⟩
  have l := (h.tri x z x hx hz hx f1 f2).2
  rw [h.diag x hx] at l
  have u := plus2_mono t1 t2
  have e : plus2 (plus2 (cellN Z x y) (cellN Z y z)) (plus2 (cellN Z z y) (cellN Z y x)) = 1 := by
    rw [plus2_assoc, ← plus2_assoc (cellN Z y z), b3, one_plus2, a3]
  omega
/-- Of what hangs together both bounds are reached, one the other's opposite. -/
theorem Tie.odd {x y : Nat} (h : Tie Z x y) : cellN Z x y % 2 = 1 ∧ cellN Z y x % 2 = 1 ∧ cellN Z x y + cellN Z y x = 2 := by
  have h3 := h.2.2
  have h4 := (plus2_odd (cellN Z x y) (cellN Z y x)).1 (by omega)
  unfold plus2 at h3
  rw [if_pos (.inl h4.1)] at h3
  exact ⟨h4.1, h4.2, by omega⟩
/-- In a zone a tie shifts a bound. -/
theorem ZCl.shiftL (h : ZCl n Z) {x y z : Nat} (hx : x ≤ n) (hy : y ≤ n) (hz : z ≤ n) (ht : Tie Z x y) : (cellN Z x z = INF ↔ cellN Z y z = INF) ∧ (cellN Z y z ≠ INF → cellN Z x z = plus2 (cellN Z x y) (cellN Z y z)) := by
  have key : cellN Z y z ≠ INF → cellN Z x z ≠ INF ∧ cellN Z x z = plus2 (cellN Z x y) (cellN Z y z) := fun hne => by
    obtain ⟨f1, t1⟩ := h.tri x y z hx hy hz ht.1 hne
    obtain ⟨f2, t2⟩ := h.tri y x z hy hx hz ht.2.1 f1
    refine ⟨f1, ?_⟩
    have u := plus2_mono (Int.le_refl (cellN Z x y)) t2
    rw [← plus2_assoc, ht.2.2, one_plus2] at u
    omega
  have key2 : cellN Z x z ≠ INF → cellN Z y z ≠ INF := fun hne => (h.tri y x z hy hx hz ht.2.1 hne).1
  refine ⟨⟨fun e => ?_, fun e => ?_⟩, fun hne => (key hne).2⟩
  · by_cases e2 : cellN Z y z = INF
    · exact e2
    · exact absurd e (key e2).1
  · by_cases e2 : cellN Z x z = INF
    · exact e2
    · exact absurd e (key2 e2)
theorem ZCl.shiftR (h : ZCl n Z) {x y z : Nat} (hx : x ≤ n) (hy : y ≤ n) (hz : z ≤ n) (ht : Tie Z x y) : (cellN Z z x = INF ↔ cellN Z z y = INF) ∧ (cellN Z z y ≠ INF → cellN Z z x = plus2 (cellN Z z y) (cellN Z y x)) := by
  have key : cellN Z z y ≠ INF → cellN Z z x ≠ INF ∧ cellN Z z x = plus2 (cellN Z z y) (cellN Z y x) := fun hne => by
    obtain ⟨f1, t1⟩ := h.tri z y x hz hy hx hne ht.2.1
    obtain ⟨f2, t2⟩ := h.tri z x y hz hx hy f1 ht.1
    refine ⟨f1, ?_⟩
    have u := plus2_mono t2 (Int.le_refl (cellN Z y x))
    rw [plus2_assoc, ht.2.2, plus2_one] at u
    omega
  have key2 : cellN Z z x ≠ INF → cellN Z z y ≠ INF := fun hne => (h.tri z x y hz hx hy hne ht.1).1
  refine ⟨⟨fun e => ?_, fun e => ?_⟩, fun hne => (key hne).2⟩
  · by_cases e2 : cellN Z z y = INF
    · exact e2
    · exact absurd e (key e2).1
  · by_cases e2 : cellN Z z x = INF
    · exact e2
    · exact absurd e (key2 e2)

theorem firstTied_is {x h : Nat} (e : firstTied Z x = some h) : h < x ∧ tied Z x h = true ∧ ∀ g, g < h → tied Z x g = false := by
  refine ⟨firstTied_lt e, firstTied_tied e, fun g hg => ?_⟩
  unfold firstTied at e
  rw [List.find?_eq_some_iff_getElem] at e
  obtain ⟨_, i, hi, he, hb⟩ := e
  have e1 : i = h := by simpa using he
  subst e1
  have := hb g hg
  simpa using this
theorem firstTied_is_none {x : Nat} (e : firstTied Z x = none) : ∀ g, g < x → tied Z x g = false := fun g hg => by
  unfold firstTied at e
  rw [List.find?_eq_none] at e
  have := e g (by simpa using hg)
  simpa using this
theorem ZCl.head_spec (h : ZCl n Z) {x : Nat} (hx : x ≤ n) : headOf Z x ≤ x ∧ Tie Z x (headOf Z x) ∧ ∀ y, y ≤ n → Tie Z x y → headOf Z x ≤ y := by
  have hb : ∀ y, y ≤ n → x ≤ y → headOf Z x ≤ y := fun y _ hy => Nat.le_trans (headOf_le Z x x (Nat.le_refl _)) hy
  cases e : firstTied Z x with
  | none =>
    have e1 : headOf Z x = x := by rw [headOf_eq, e]
    have e2 := firstTied_is_none e
    rw [e1]
    refine ⟨Nat.le_refl _, h.tie_refl hx, fun y hy ht => ?_⟩
    rcases Nat.lt_or_ge y x with h1 | h1
    · have := (h.tied_iff hx hy).2 ht
      rw [e2 y h1] at this; cases this
    · exact h1
  | some g =>
    obtain ⟨g1, g2, g3⟩ := firstTied_is e
    have hg : g ≤ n := by omega
    have tg := (h.tied_iff hx hg).1 g2
    have e2 : firstTied Z g = none := by
      cases e3 : firstTied Z g with
      | none => rfl
      | some f =>
        obtain ⟨f1, f2, _⟩ := firstTied_is e3
        have tf := (h.tied_iff hg (by omega)).1 f2
        have := (h.tied_iff hx (by omega)).2 (h.tie_trans hx hg (by omega) tg tf)
        rw [g3 f f1] at this; cases this
    have e1 : headOf Z x = g := by
      rw [headOf_eq, e]
      show headOf Z g = g
      rw [headOf_eq, e2]
    rw [e1]
    refine ⟨by omega, tg, fun y hy ht => ?_⟩
    rcases Nat.lt_or_ge y g with h1 | h1
    · have := (h.tied_iff hx hy).2 ht
      rw [g3 y h1] at this; cases this
    · exact h1
theorem ZCl.head_iff (h : ZCl n Z) {x y : Nat} (hx : x ≤ n) (hy : y ≤ n) : headOf Z x = headOf Z y ↔ Tie Z x y := by
  obtain ⟨a1, a2, a3⟩ := h.head_spec hx
  obtain ⟨b1, b2, b3⟩ := h.head_spec hy
  constructor
  · intro e
    rw [← e] at b2
    exact h.tie_trans hx (by omega) hy a2 b2.symm
  · intro t
    have h1 := a3 (headOf Z y) (by omega) (h.tie_trans hx hy (by omega) t b2)
    have h2 := b3 (headOf Z x) (by omega) (h.tie_trans hy hx (by omega) t.symm a2)
    omega
theorem ZCl.head_head (h : ZCl n Z) {x : Nat} (hx : x ≤ n) : headOf Z (headOf Z x) = headOf Z x := by
  obtain ⟨a1, a2, _⟩ := h.head_spec hx
  exact ((h.head_iff hx (by omega)).2 a2).symm
theorem mem_memTo {m y x : Nat} : x ∈ memTo Z m y ↔ x < m ∧ headOf Z x = y := by
  unfold memTo
  rw [List.mem_filter, List.mem_range]
  simp
theorem memTo_sorted (m y : Nat) : (memTo Z m y).Pairwise (· < ·) := List.Pairwise.sublist List.filter_sublist List.pairwise_lt_range
theorem memTo_nodup (m y : Nat) : (memTo Z m y).Nodup := (memTo_sorted m y).imp (fun h => Nat.ne_of_lt h)
theorem hd_of_sorted {l : List Nat} {y : Nat} (hs : l.Pairwise (· < ·)) (hy : y ∈ l) (hm : ∀ x ∈ l, y ≤ x) : hd l = y := by
  cases l with
  | nil => cases hy
  | cons a l =>
    show a = y
    rcases List.mem_cons.1 hy with rfl | h1
    · rfl
    · have h2 := (List.pairwise_cons.1 hs).1 y h1
      have h3 := hm a (List.mem_cons_self)
      omega
/-- A clock that heads a class. -/
def IsHead (Z : List Int) (n y : Nat) : Prop := y ≤ n ∧ headOf Z y = y
theorem ZCl.hd_mem (h : ZCl n Z) {y : Nat} (hy : IsHead Z n y) : hd (memTo Z (n + 1) y) = y := by
  refine hd_of_sorted (memTo_sorted _ _) (mem_memTo.2 ⟨by have := hy.1; omega, hy.2⟩) (fun x hx => ?_)
  obtain ⟨h1, h2⟩ := mem_memTo.1 hx
  rw [← h2]
  exact (h.head_spec (by omega : x ≤ n)).1
theorem ZCl.mem_classes (h : ZCl n Z) {c : List Nat} : c ∈ classesL Z n ↔ ∃ y, IsHead Z n y ∧ c = memTo Z (n + 1) y := by
  rw [classesL_eq, List.mem_map]
  constructor
  · rintro ⟨y, hy, rfl⟩
    unfold headsL at hy
    rw [List.mem_filter, List.mem_range] at hy
    refine ⟨y, ?_, rfl⟩
    obtain ⟨x, hx⟩ : ∃ x, x ∈ memTo Z (n + 1) y := by
      cases hm : memTo Z (n + 1) y with
      | nil => rw [hm] at hy; simp at hy
      | cons a l => exact ⟨a, List.mem_cons_self⟩
    obtain ⟨h1, h2⟩ := mem_memTo.1 hx
    refine ⟨by omega, ?_⟩
    rw [← h2]
    exact h.head_head (by omega)
  · rintro ⟨y, hy, rfl⟩
    refine ⟨y, ?_, rfl⟩
    unfold headsL
    rw [List.mem_filter, List.mem_range]
    refine ⟨by have := hy.1; omega, ?_⟩
    have : y ∈ memTo Z (n + 1) y := mem_memTo.2 ⟨by have := hy.1; omega, hy.2⟩
    cases hm : memTo Z (n + 1) y with
    | nil => rw [hm] at this; cases this
    | cons a l => rfl
/-- A class, as its members see it. -/
theorem ZCl.class_of (h : ZCl n Z) {c : List Nat} (hc : c ∈ classesL Z n) : IsHead Z n (hd c) ∧ (∀ x, x ∈ c ↔ x ≤ n ∧ headOf Z x = hd c) ∧ c.Pairwise (· < ·) ∧ c.Nodup ∧ hd c ∈ c := by
  obtain ⟨y, hy, rfl⟩ := h.mem_classes.1 hc
  rw [h.hd_mem hy]
  refine ⟨hy, fun x => ?_, memTo_sorted _ _, memTo_nodup _ _, mem_memTo.2 ⟨by have := hy.1; omega, hy.2⟩⟩
  rw [mem_memTo]
  omega
theorem ZCl.classes_nodup (h : ZCl n Z) : (classesL Z n).Pairwise (fun c d => hd c ≠ hd d) := by
  rw [classesL_eq, List.pairwise_map]
  have h1 : (headsL Z (n + 1) (n + 1)).Nodup := headsL_nodup Z _ _
  refine h1.imp_of_mem (fun {a b} ha hb hne => ?_)
  have hh : ∀ y, y ∈ headsL Z (n + 1) (n + 1) → hd (memTo Z (n + 1) y) = y := fun y hy => by
    have : memTo Z (n + 1) y ∈ classesL Z n := by rw [classesL_eq]; exact List.mem_map_of_mem hy
    obtain ⟨y', hy', e⟩ := h.mem_classes.1 this
    have e2 := h.hd_mem hy'
    rw [← e] at e2
    have hyy : y ∈ memTo Z (n + 1) y → hd (memTo Z (n + 1) y) = y := fun hm => by
      have := (mem_memTo.1 hm).2
      refine hd_of_sorted (memTo_sorted _ _) hm (fun x hx => ?_)
      obtain ⟨h1, h2⟩ := mem_memTo.1 hx
      rw [← h2]
      exact (h.head_spec (by omega : x ≤ n)).1
    unfold headsL at hy
    rw [List.mem_filter, List.mem_range] at hy
    obtain ⟨x, hx⟩ : ∃ x, x ∈ memTo Z (n + 1) y := by
      cases hm : memTo Z (n + 1) y with
      | nil => rw [hm] at hy; simp at hy
      | cons a l => exact ⟨a, List.mem_cons_self⟩
    obtain ⟨h3, h4⟩ := mem_memTo.1 hx
    exact hyy (mem_memTo.2 ⟨hy.1, by rw [← h4]; exact h.head_head (by omega)⟩)
  rw [hh a ha, hh b hb]
  exact hne
theorem ZCl.class_of_clock (h : ZCl n Z) {x : Nat} (hx : x ≤ n) : ∃ c, c ∈ classesL Z n ∧ hd c = headOf Z x ∧ x ∈ c := by
  have hy : IsHead Z n (headOf Z x) := ⟨Nat.le_trans (h.head_spec hx).1 hx, h.head_head hx⟩
  exact ⟨_, h.mem_classes.2 ⟨_, hy, rfl⟩, h.hd_mem hy, mem_memTo.2 ⟨by omega, rfl⟩⟩
end
end Go.Proofs.Ytapfihlgemejiaa
