/- Plain: the few bounds of a zone are no more than any bounds that make it. | Plain: the classes gone through one by one, each clock marked by its class. | Plain: the few bounds of a zone make it. | Plain: the few bounds generate the zone; without one of them it is greater. -/
import Derived.Test.YtapfihlgemejiaaP2
-- Plain: the few bounds of a zone are no more than any bounds that make it.
namespace Go.Proofs.Ytapfihlgemejiaa

/-- Where a limit stands in the matrix, and that it binds. -/
def LimAt (x : Lim) (p q : Nat) (c : Int) : Prop := x.i = p ∧ x.j = q ∧ x.b ≠ INF ∧ x.b = c
/-- What the limits leave in the matrix. -/
structure LimCells (n : Nat) (l : List Lim) (L : List Int) : Prop where
  src : ∀ p q, p ≤ n → q ≤ n → gt L (9 * p + q) ≠ NONE → (∃ x, x ∈ l ∧ LimAt x p q (gt L (9 * p + q))) ∨ ((p = q ∨ p = 0) ∧ gt L (9 * p + q) = 1)
  le : ∀ x, x ∈ l → x.b ≠ INF → ∀ p q : Nat, x.i = p → x.j = q → p ≤ n → q ≤ n → gt L (9 * p + q) ≤ x.b
  low : ∀ p q, p ≤ n → q ≤ n → (p = q ∨ p = 0) → gt L (9 * p + q) ≤ 1
  len : L.length = 81
theorem limCells {n : Nat} (hn : n ≤ 8) (l : List Lim) : ∀ m, m ≤ l.length → ∀ L,
    lpO (fun t L => if limOk n (l.getD t ⟨0, 0, 0⟩) then some (keepL L (l.getD t ⟨0, 0, 0⟩).i.toNat (l.getD t ⟨0, 0, 0⟩).j.toNat (l.getD t ⟨0, 0, 0⟩).b) else none) m (openL n) = some L → LimCells n (l.take m) L ∧ ∀ x, x ∈ l.take m → limOk n x = true := by
  intro m
  induction m with
  | zero =>
    intro _ L h
    cases h
    refine ⟨⟨fun p q hp hq hne => ?_, (fun x hx => by cases hx), fun p q hp hq hpq => ?_, openL_length n⟩, (fun x hx => by cases hx)⟩
    · rw [open_form n hn p q (by omega), if_pos ⟨hp, hq⟩] at hne ⊢
      split at hne
      · rename_i hpq; rw [if_pos hpq]; exact .inr ⟨hpq, rfl⟩
      · exact absurd rfl hne
    · rw [open_form n hn p q (by omega), if_pos ⟨hp, hq⟩, if_pos hpq]; omega
  | succ m ih =>
    intro hm L h
    rw [lpO_succ] at h
    cases hq : lpO (fun t L => if limOk n (l.getD t ⟨0, 0, 0⟩) then some (keepL L (l.getD t ⟨0, 0, 0⟩).i.toNat (l.getD t ⟨0, 0, 0⟩).j.toNat (l.getD t ⟨0, 0, 0⟩).b) else none) m (openL n) with
    | none => rw [hq] at h; cases h
    | some M =>
      rw [hq] at h
      obtain ⟨h1, h2⟩ := ih (by omega) M hq
      have hl : m < l.length := by omega
      have hg : l.getD m ⟨0, 0, 0⟩ = l[m] := by rw [List.getD_eq_getElem?_getD, List.getElem?_eq_getElem hl]; rfl
      simp only [Option.bind_some, hg] at h
      split at h
      · rename_i hok
        cases h
        rw [List.take_succ_eq_append_getElem hl]
        generalize l[m] = x at *
        have hok' := hok
        unfold limOk at hok'
        simp only [Bool.and_eq_true, decide_eq_true_eq] at hok'
        obtain ⟨⟨o1, o2, o3, o4⟩, o5⟩ := hok'
        obtain ⟨i, hi⟩ := Int.eq_ofNat_of_zero_le o1
        obtain ⟨j, hj⟩ := Int.eq_ofNat_of_zero_le o3
        have hin : i ≤ n := by omega
        have hjn : j ≤ n := by omega
        have ei : x.i.toNat = i := by omega
        have ej : x.j.toNat = j := by omega
        rw [ei, ej]
        have hcell : ∀ p q, p ≤ n → q ≤ n → gt (keepL M i j x.b) (9 * p + q) = if p = i ∧ q = j ∧ x.b ≠ INF then mn (gt M (9 * p + q)) x.b else gt M (9 * p + q) := fun p q hp hq => by
          unfold keepL
          by_cases hb : x.b = INF
          · rw [if_pos hb, if_neg (fun e => e.2.2 hb)]
          · rw [if_neg hb, gt_st_cell _ _ _ _ _ _ h1.len (by omega) (by omega) (by omega)]
            by_cases e : p = i ∧ q = j
            · rw [if_pos e, if_pos ⟨e.1, e.2, hb⟩, e.1, e.2]
            · rw [if_neg e, if_neg (fun h => e ⟨h.1, h.2.1⟩)]
        have hdown : ∀ p q, p ≤ n → q ≤ n → gt (keepL M i j x.b) (9 * p + q) ≤ gt M (9 * p + q) := fun p q hp hq => by
          rw [hcell p q hp hq]
          split
          · exact mn_le _ _
          · exact Int.le_refl _
        refine ⟨⟨fun p q hp hq hne => ?_, fun y hy hb p q e1 e2 hp hq => ?_, fun p q hp hq hpq => Int.le_trans (hdown p q hp hq) (h1.low p q hp hq hpq), by rw [keepL_length, h1.len]⟩, fun y hy => ?_⟩
        · rw [hcell p q hp hq] at hne ⊢
          split at hne
          · rename_i e
            rw [if_pos e]
            rcases mn_cases (gt M (9 * p + q)) x.b with e2 | e2
            · rw [e2] at hne ⊢
              rcases h1.src p q hp hq hne with ⟨y, hy, hy2⟩ | hy
              · exact .inl ⟨y, List.mem_append_left _ hy, hy2⟩
              · exact .inr hy
            · rw [e2]
              exact .inl ⟨x, by simp, by rw [hi, e.1], by rw [hj, e.2.1], e.2.2, rfl⟩
          · rename_i e
            rw [if_neg e]
            rcases h1.src p q hp hq hne with ⟨y, hy, hy2⟩ | hy
            · exact .inl ⟨y, List.mem_append_left _ hy, hy2⟩
            · exact .inr hy
        · rcases List.mem_append.1 hy with hy | hy
          · exact Int.le_trans (hdown p q hp hq) (h1.le y hy hb p q e1 e2 hp hq)
          · have : y = x := by simpa using hy
            subst this
            have ep : p = i := by omega
            have eq : q = j := by omega
            rw [hcell p q hp hq, if_pos ⟨ep, eq, hb⟩]
            exact mn_le' _ _
        · rcases List.mem_append.1 hy with hy | hy
          · exact h2 y hy
          · have : y = x := by simpa using hy
            subst this; exact hok
      · cases h
/-- Limits that are taken: what comes of them. -/
theorem limZ_ok {n : Nat} {l : List Lim} {Z : List Int} (h : limZ n l = .ok Z) : n ≤ 8 ∧ (∀ x, x ∈ l → limOk n x = true) ∧ ∃ L, limL n l = some L ∧ zoneOf n L = .ok Z ∧ LimCells n l L ∧ Start n L ∧ ZFrom n L Z := by
  unfold limZ at h
  split at h
  · cases h
  · rename_i hf
    have hn : n ≤ 8 := by
      have : fewB n = true := by simpa using hf
      unfold fewB at this
      simp at this; omega
    cases hq : limL n l with
    | none => rw [hq] at h; cases h
    | some L =>
      rw [hq] at h
      have h : zoneOf n L = .ok Z := h
      have hs := limL_start n hn l l.length L hq
      obtain ⟨h1, h2⟩ := limCells hn l l.length (Nat.le_refl _) L hq
      rw [List.take_length] at h1 h2
      refine ⟨hn, h2, L, rfl, h, h1, hs, zoneOf_from hn hs (fun j hj => ?_) h⟩
      have := h1.low 0 j (by omega) hj (.inr rfl)
      rwa [show 9 * 0 + j = j by omega] at this

section
variable {n : Nat} {Z L : List Int} {l : List Lim}
/-- A bound from a head to that of another class: some limit goes from the one class to the other. -/
theorem ZCl.cross (hz : ZCl n Z) (hl : LimCells n l L) (hle : ∀ p q, p ≤ n → q ≤ n → gt L (9 * p + q) ≠ NONE → cellN Z p q ≠ INF ∧ cellN Z p q ≤ gt L (9 * p + q)) (hw : ∀ p q, p ≤ n → q ≤ n → cellN Z p q ≠ INF → Wk n L p q (cellN Z p q))
    {c d : List Nat} (hc : c ∈ classesL Z n) (hdm : d ∈ classesL Z n) (hne : hd c ≠ hd d) (hnd : neededB Z (hd c) d (classesL Z n) = true) :
    ∃ x, x ∈ l ∧ ∃ p q : Nat, x.i = p ∧ x.j = q ∧ p ≤ n ∧ q ≤ n ∧ headOf Z p = hd c ∧ headOf Z q = hd d := by
  obtain ⟨⟨c1, c2⟩, cm, _, _, _⟩ := hz.class_of hc
  obtain ⟨⟨d1, d2⟩, dm, _, _, _⟩ := hz.class_of hdm
  unfold neededB at hnd
  simp only [Bool.and_eq_true, decide_eq_true_eq, Bool.not_eq_true', Bool.and_eq_false_iff, decide_eq_false_iff_not] at hnd
  obtain ⟨⟨n1, n2⟩, n3⟩ := hnd
  have hfin : cellN Z (hd c) (hd d) ≠ INF := n1
  obtain ⟨x, y, s1, s2, s3, s4, s5, s6, s7, s8, s9, t1, t2⟩ := leave_tight hz hle (fun u => headOf Z u = hd c) (hw _ _ c1 d1 hfin) c2 (by rw [d2]; exact fun e => hne e.symm)
  have hrij := (hz.rng _ _ c1 d1).resolve_left hfin
  -- where it leads to
  have hy : headOf Z y = hd d := by
    by_cases e : headOf Z y = hd d
    · exact e
    · exfalso
      obtain ⟨ck, k1, k2, k3⟩ := hz.class_of_clock s4
      have hk := (hz.class_of k1).1
      have ty : Tie Z y (hd ck) := by rw [k2]; exact (hz.head_spec s4).2.1
      have r := hz.shiftR hk.1 s4 c1 ty.symm
      have r2 := hz.shiftL hk.1 s4 d1 ty.symm
      have f1 : cellN Z (hd c) (hd ck) ≠ INF := fun e => s9 (r.1.1 e)
      have f2 : cellN Z (hd ck) (hd d) ≠ INF := fun e => s8 (r2.1.1 e)
      have e1 := r.2 s9
      have e2 := r2.2 s8
      have e3 : plus2 (cellN Z (hd c) (hd ck)) (cellN Z (hd ck) (hd d)) = cellN Z (hd c) (hd d) := by
        rw [e1, e2, plus2_assoc, ← plus2_assoc (cellN Z y (hd ck)), ty.2.2, one_plus2, t1]
      have := List.any_eq_false.1 n3 ck k1
      apply this
      simp only [Bool.and_eq_true, decide_eq_true_eq]
      refine ⟨⟨by rw [k2]; exact s2, by rw [k2]; exact e⟩, ?_⟩
      exact (hz.way_le c1 hk.1 d1 hrij.1 hrij.2).2 ⟨f1, f2, by omega⟩
  rcases hl.src x y s3 s4 s5 with ⟨m, hm, m1, m2, m3, m4⟩ | ⟨hf, e1⟩
  · exact ⟨m, hm, x, y, m1, m2, s3, s4, s1, hy⟩
  · exfalso
    have hx0 : x = 0 := by
      rcases hf with e | e
      · subst e; exact absurd s1 s2
      · exact e
    subst hx0
    have h0 : hd c = 0 := by
      have := (hz.head_spec (Nat.zero_le n)).1
      omega
    rw [h0] at t2
    rw [hz.diag 0 (by omega), e1, one_plus2, one_plus2] at t2
    have ty : Tie Z y (hd d) := by rw [← hy]; exact (hz.head_spec s4).2.1
    have ho := ty.odd
    rw [h0] at t1
    rw [plus2_shift _ ho.1] at t1
    have e2 : cellN Z 0 y = 1 := by omega
    rcases n2 with n2 | n2
    · exact n2 h0
    · have := List.any_eq_false.1 n2 y ((dm y).2 ⟨s4, hy⟩)
      simp [e2] at this
/-- A bound of a class's round: some limit goes out of its first clock, within the class. -/
theorem ZCl.inside (hz : ZCl n Z) (hl : LimCells n l L) (hle : ∀ p q, p ≤ n → q ≤ n → gt L (9 * p + q) ≠ NONE → cellN Z p q ≠ INF ∧ cellN Z p q ≤ gt L (9 * p + q)) (hw : ∀ p q, p ≤ n → q ≤ n → cellN Z p q ≠ INF → Wk n L p q (cellN Z p q))
    {c : List Nat} (hc : c ∈ classesL Z n) {x y0 : Nat} (hx : x ∈ c) (hy0 : y0 ∈ c) (hne : x ≠ y0) (h0 : x ≠ 0 ∨ ∀ k, k ∈ c → k ≠ 0 → cellN Z 0 k ≠ 1) :
    ∃ m, m ∈ l ∧ ∃ q : Nat, m.i = x ∧ m.j = q ∧ q ≤ n ∧ headOf Z q = headOf Z x := by
  obtain ⟨_, cm, _, _, _⟩ := hz.class_of hc
  obtain ⟨x1, x2⟩ := (cm x).1 hx
  obtain ⟨y1, y2⟩ := (cm y0).1 hy0
  have txy : Tie Z x y0 := (hz.head_iff x1 y1).1 (x2.trans y2.symm)
  obtain ⟨x', k, s1, s2, s3, s4, s5, s6, s7, s8, s9, t1, t2⟩ := leave_tight hz hle (fun u => u = x) (hw _ _ x1 y1 txy.1) rfl (fun e => hne e.symm)
  have s1 : x' = x := s1
  subst s1
  have tk : Tie Z x' k := by
    obtain ⟨f1, u1⟩ := hz.tri k y0 x' s4 y1 x1 s8 txy.2.1
    refine ⟨s9, f1, ?_⟩
    have u2 := plus2_mono (Int.le_refl (cellN Z x' k)) u1
    rw [← plus2_assoc, t1, txy.2.2] at u2
    have u3 := (hz.tri x' k x' x1 s4 x1 s9 f1).2
    rw [hz.diag x' x1] at u3
    omega
  have hk : headOf Z k = headOf Z x' := ((hz.head_iff x1 s4).2 tk).symm
  rcases hl.src x' k s3 s4 s5 with ⟨m, hm, m1, m2, m3, m4⟩ | ⟨hf, e1⟩
  · exact ⟨m, hm, k, m1, m2, s4, hk⟩
  · exfalso
    have hx0 : x' = 0 := by
      rcases hf with e | e
      · exact absurd e.symm s2
      · exact e
    subst hx0
    rw [hz.diag 0 (by omega), e1, one_plus2, one_plus2] at t2
    have ty : Tie Z k y0 := hz.tie_trans s4 x1 y1 tk.symm txy
    have ho := ty.odd
    rw [plus2_shift _ ho.1] at t1
    have e2 : cellN Z 0 k = 1 := by omega
    rcases h0 with h0 | h0
    · exact h0 rfl
    · exact h0 k ((cm k).2 ⟨s4, hk.trans x2⟩) s2 e2
/-- The key of a bound: from which class (or clock) to which. -/
def keyOf (Z : List Int) (p q : Nat) : Nat × Nat := if headOf Z p = headOf Z q then (p, p) else (headOf Z p, headOf Z q)
theorem mem_fewL {e : Nat × Nat} : e ∈ fewL Z n ↔ (∃ c, c ∈ classesL Z n ∧ e ∈ roundPuts Z (roundL Z c)) ∨
    ∃ c d, c ∈ classesL Z n ∧ d ∈ classesL Z n ∧ hd c ≠ hd d ∧ neededB Z (hd c) d (classesL Z n) = true ∧ e = (hd c, hd d) := by
  unfold fewL
  rw [List.mem_append, List.mem_flatMap, List.mem_flatMap]
  constructor
  · rintro (⟨c, hc, he⟩ | ⟨c, hc, he⟩)
    · exact .inl ⟨c, hc, he⟩
    · rw [List.mem_map] at he
      obtain ⟨d, hd1, rfl⟩ := he
      rw [List.mem_filter] at hd1
      simp only [Bool.and_eq_true, decide_eq_true_eq] at hd1
      exact .inr ⟨c, d, hc, hd1.1, hd1.2.1, hd1.2.2, rfl⟩
  · rintro (⟨c, hc, he⟩ | ⟨c, d, hc, hd1, h1, h2, rfl⟩)
    · exact .inl ⟨c, hc, he⟩
    · refine .inr ⟨c, hc, ?_⟩
      rw [List.mem_map]
      refine ⟨d, ?_, rfl⟩
      rw [List.mem_filter]
      simp only [Bool.and_eq_true, decide_eq_true_eq]
      exact ⟨hd1, h1, h2⟩
theorem ZCl.few_key (hz : ZCl n Z) {e : Nat × Nat} : ((∃ c, c ∈ classesL Z n ∧ e ∈ roundPuts Z (roundL Z c)) → e.1 ≤ n ∧ e.2 ≤ n ∧ headOf Z e.1 = headOf Z e.2) := by
  rintro ⟨c, hc, he⟩
  obtain ⟨m1, m2, _, _⟩ := hz.rp_spec hc he
  obtain ⟨_, cm, _⟩ := hz.class_of hc
  obtain ⟨a1, a2⟩ := (cm _).1 m1
  obtain ⟨b1, b2⟩ := (cm _).1 m2
  exact ⟨a1, b1, a2.trans b2.symm⟩
theorem ZCl.few_nodup (hz : ZCl n Z) : ((fewL Z n).map fun e => keyOf Z e.1 e.2).Nodup := by
  unfold fewL
  rw [List.map_append, List.nodup_append]
  have hcl := hz.classes_nodup
  refine ⟨?_, ?_, ?_⟩
  · rw [List.map_flatMap]
    unfold List.Nodup
    rw [List.pairwise_flatMap]
    refine ⟨fun c hc => ?_, ?_⟩
    · have e1 : (roundPuts Z (roundL Z c)).map (fun e => keyOf Z e.1 e.2) = ((roundPuts Z (roundL Z c)).map Prod.fst).map fun x => (x, x) := by
        rw [List.map_map]
        refine List.map_congr_left (fun e he => ?_)
        obtain ⟨_, _, h3⟩ := hz.few_key ⟨c, hc, he⟩
        show keyOf Z e.1 e.2 = (e.1, e.1)
        unfold keyOf
        rw [if_pos h3]
      rw [e1]
      have h1 := rp_nodup (Z := Z) (roundL_nodup (Z := Z) (hz.class_of hc).2.2.2.1)
      rw [List.pairwise_map]
      exact h1.imp (fun hne e => hne (by simpa using e))
    · refine hcl.imp_of_mem (fun {c d} hc hd1 hne => ?_)
      intro x hx y hy
      rw [List.mem_map] at hx hy
      obtain ⟨e, he, rfl⟩ := hx
      obtain ⟨f, hf, rfl⟩ := hy
      intro hxy
      obtain ⟨_, _, h3⟩ := hz.few_key ⟨c, hc, he⟩
      obtain ⟨_, _, g3⟩ := hz.few_key ⟨d, hd1, hf⟩
      have hxy : keyOf Z e.1 e.2 = keyOf Z f.1 f.2 := hxy
      unfold keyOf at hxy
      rw [if_pos h3, if_pos g3] at hxy
      have hef : e.1 = f.1 := by simpa using hxy
      obtain ⟨m1, _⟩ := hz.rp_spec hc he
      obtain ⟨m2, _⟩ := hz.rp_spec hd1 hf
      have a := ((hz.class_of hc).2.1 _).1 m1
      have b := ((hz.class_of hd1).2.1 _).1 m2
      rw [hef] at a
      exact hne (a.2.symm.trans b.2)
  · rw [List.map_flatMap]
    unfold List.Nodup
    rw [List.pairwise_flatMap]
    have hk : ∀ c d, c ∈ classesL Z n → d ∈ classesL Z n → hd c ≠ hd d → keyOf Z (hd c) (hd d) = (hd c, hd d) := fun c d hc hd1 hne => by
      have a := (hz.class_of hc).1.2
      have b := (hz.class_of hd1).1.2
      unfold keyOf
      rw [a, b, if_neg hne]
    refine ⟨fun c hc => ?_, ?_⟩
    · rw [List.map_map, List.pairwise_map]
      refine (hcl.filter _).imp_of_mem (fun {d f} hd1 hf hne => ?_)
      rw [List.mem_filter] at hd1 hf
      simp only [Bool.and_eq_true, decide_eq_true_eq] at hd1 hf
      show keyOf Z (hd c) (hd d) ≠ keyOf Z (hd c) (hd f)
      rw [hk c d hc hd1.1 hd1.2.1, hk c f hc hf.1 hf.2.1]
      intro e
      exact hne (by simpa using e)
    · refine hcl.imp_of_mem (fun {c c'} hc hc' hne => ?_)
      intro x hx y hy
      rw [List.map_map, List.mem_map] at hx hy
      obtain ⟨d, hd1, rfl⟩ := hx
      obtain ⟨f, hf, rfl⟩ := hy
      rw [List.mem_filter] at hd1 hf
      simp only [Bool.and_eq_true, decide_eq_true_eq] at hd1 hf
      show keyOf Z (hd c) (hd d) ≠ keyOf Z (hd c') (hd f)
      rw [hk c d hc hd1.1 hd1.2.1, hk c' f hc' hf.1 hf.2.1]
      intro e
      have : hd c = hd c' := by
        have := congrArg Prod.fst e
        exact this
      exact hne this
  · intro x hx y hy e
    subst e
    rw [List.mem_map] at hx hy
    obtain ⟨e, he, rfl⟩ := hx
    obtain ⟨f, hf, hy⟩ := hy
    rw [List.mem_flatMap] at he hf
    obtain ⟨_, _, h3⟩ := hz.few_key he
    obtain ⟨c, hc, hf⟩ := hf
    rw [List.mem_map] at hf
    obtain ⟨d, hd1, rfl⟩ := hf
    rw [List.mem_filter] at hd1
    simp only [Bool.and_eq_true, decide_eq_true_eq] at hd1
    have a := (hz.class_of hc).1.2
    have b := (hz.class_of hd1.1).1.2
    unfold keyOf at hy
    rw [if_pos h3] at hy
    simp only [a, b, if_neg hd1.2.1] at hy
    have h1 := congrArg Prod.fst hy
    have h2 := congrArg Prod.snd hy
    exact hd1.2.1 (h1.trans h2.symm)
theorem length_le_of_subset {α : Type} : ∀ {a b : List α}, a.Nodup → (∀ x ∈ a, x ∈ b) → a.length ≤ b.length
  | [], _, _, _ => Nat.zero_le _
  | x :: a, b, hn, hs => by
    obtain ⟨h1, h2⟩ := List.nodup_cons.1 hn
    obtain ⟨p, q, rfl⟩ := List.append_of_mem (hs x (List.mem_cons_self))
    have := length_le_of_subset (a := a) (b := p ++ q) h2 (fun y hy => by
      have h3 := hs y (List.mem_cons_of_mem _ hy)
      rw [List.mem_append, List.mem_cons] at h3
      rw [List.mem_append]
      rcases h3 with h3 | h3 | h3
      · exact .inl h3
      · subst h3; exact absurd hy h1
      · exact .inr h3)
    simp only [List.length_cons, List.length_append] at this ⊢
    omega
/-- No limits that make the zone are fewer. -/
theorem ZCl.fewest (hz : ZCl n Z) (hl : LimCells n l L) (hle : ∀ p q, p ≤ n → q ≤ n → gt L (9 * p + q) ≠ NONE → cellN Z p q ≠ INF ∧ cellN Z p q ≤ gt L (9 * p + q)) (hw : ∀ p q, p ≤ n → q ≤ n → cellN Z p q ≠ INF → Wk n L p q (cellN Z p q)) :
    (fewL Z n).length ≤ l.length := by
  have h1 := length_le_of_subset (b := l.map fun x => keyOf Z x.i.toNat x.j.toNat) hz.few_nodup (fun k hk => by
    rw [List.mem_map] at hk
    obtain ⟨e, he, rfl⟩ := hk
    rw [List.mem_map]
    rcases mem_fewL.1 he with ⟨c, hc, he⟩ | ⟨c, d, hc, hd1, hne, hnd, rfl⟩
    · obtain ⟨m1, m2, m3, m4⟩ := hz.rp_spec hc he
      obtain ⟨_, _, h3⟩ := hz.few_key ⟨c, hc, he⟩
      obtain ⟨m, hm, q, q1, q2, q3, q4⟩ := hz.inside hl hle hw hc m1 m2 m3 m4
      refine ⟨m, hm, ?_⟩
      rw [q1, q2]
      show keyOf Z e.1 q = keyOf Z e.1 e.2
      unfold keyOf
      rw [if_pos h3, if_pos q4.symm]
    · obtain ⟨m, hm, p, q, q1, q2, q3, q4, q5, q6⟩ := hz.cross hl hle hw hc hd1 hne hnd
      refine ⟨m, hm, ?_⟩
      rw [q1, q2]
      show keyOf Z p q = keyOf Z (hd c) (hd d)
      unfold keyOf
      rw [q5, q6, (hz.class_of hc).1.2, (hz.class_of hd1).1.2, if_neg hne, if_neg hne])
  simpa using h1
theorem closeL_universe (n : Nat) (hn : n ≤ 8) : closeL n (openL n) ≠ none := by
  rcases (show n = 0 ∨ n = 1 ∨ n = 2 ∨ n = 3 ∨ n = 4 ∨ n = 5 ∨ n = 6 ∨ n = 7 ∨ n = 8 by omega) with rfl | rfl | rfl | rfl | rfl | rfl | rfl | rfl | rfl <;> decide +kernel
end
/-- The few bounds of a zone. -/
def fewN (z : Zn) : List Lim := if emptyB z.Z = true then [⟨0, 0, 0⟩] else (fewL z.Z z.n).map (limOf z.Z)
theorem zeros_empty : emptyB zeros = true := by decide
theorem ZCl.not_empty {n : Nat} {Z : List Int} (h : ZCl n Z) : emptyB Z = false := by
  have := h.diag 0 (Nat.zero_le n)
  unfold emptyB
  unfold cellN at this
  rw [show 9 * 0 + 0 = 0 by rfl] at this
  rw [this]; decide
theorem ZFrom.len {n : Nat} {L Z : List Int} (h : ZFrom n L Z) : Z.length = 81 := by
  rcases h with ⟨_, rfl⟩ | ⟨h, _⟩
  · exact zeros_length
  · exact h.len
theorem fewN_fewest {n : Nat} {l : List Lim} {Z : List Int} (h : limZ n l = .ok Z) : (fewN ⟨n, Z⟩).length ≤ l.length := by
  obtain ⟨hn, _, L, hL, hzo, hl, _, hf⟩ := limZ_ok h
  unfold fewN
  rcases hf with ⟨hc, rfl⟩ | ⟨hz, hle, hw⟩
  · rw [if_pos zeros_empty]
    cases l with
    | nil =>
      have e : limL n [] = some (openL n) := rfl
      rw [e] at hL
      cases hL
      exact absurd hc (closeL_universe n hn)
    | cons x l => simp
  · rw [if_neg (by rw [hz.not_empty]; decide), List.length_map]
    exact hz.fewest hl hle hw
end Go.Proofs.Ytapfihlgemejiaa
-- Plain: the classes gone through one by one, each clock marked by its class.
namespace Go.Proofs.Ytapfihlgemejiaa

section
variable {n : Nat} {Z : List Int}
theorem ZCl.heads_sorted (h : ZCl n Z) : (classesL Z n).Pairwise (fun c d => hd c < hd d) := by
  rw [classesL_eq, List.pairwise_map]
  have h1 : (headsL Z (n + 1) (n + 1)).Pairwise (· < ·) := List.Pairwise.sublist List.filter_sublist List.pairwise_lt_range
  refine h1.imp_of_mem (fun {a b} ha hb hlt => ?_)
  have hh : ∀ y, y ∈ headsL Z (n + 1) (n + 1) → hd (memTo Z (n + 1) y) = y := fun y hy => by
    unfold headsL at hy
    rw [List.mem_filter, List.mem_range] at hy
    obtain ⟨x, hx⟩ : ∃ x, x ∈ memTo Z (n + 1) y := by
      cases hm : memTo Z (n + 1) y with
      | nil => rw [hm] at hy; simp at hy
      | cons a l => exact ⟨a, List.mem_cons_self⟩
    obtain ⟨h3, h4⟩ := mem_memTo.1 hx
    refine h.hd_mem ⟨by omega, ?_⟩
    rw [← h4]; exact h.head_head (by omega)
  rw [hh a ha, hh b hb]
  exact hlt
/-- A class, by its number. -/
def clN (Z : List Int) (n i : Nat) : List Nat := (classesL Z n).getD i []
theorem clN_mem {i : Nat} (h : i < (classesL Z n).length) : clN Z n i ∈ classesL Z n := by
  unfold clN
  rw [List.getD_eq_getElem?_getD, List.getElem?_eq_getElem h]; exact List.getElem_mem h
theorem ZCl.clN_lt (h : ZCl n Z) {i j : Nat} (hij : i < j) (hj : j < (classesL Z n).length) : hd (clN Z n i) < hd (clN Z n j) := by
  have := List.pairwise_iff_getElem.1 h.heads_sorted i j (by omega) hj hij
  unfold clN
  rw [List.getD_eq_getElem?_getD, List.getD_eq_getElem?_getD, List.getElem?_eq_getElem (by omega), List.getElem?_eq_getElem hj]
  exact this
theorem ZCl.clN_apart (h : ZCl n Z) {i j x : Nat} (hi : i < (classesL Z n).length) (hj : j < (classesL Z n).length) (h1 : x ∈ clN Z n i) (h2 : x ∈ clN Z n j) : i = j := by
  have a := ((h.class_of (clN_mem hi)).2.1 x).1 h1
  have b := ((h.class_of (clN_mem hj)).2.1 x).1 h2
  rcases Nat.lt_trichotomy i j with e | e | e
  · have := h.clN_lt e hj; omega
  · exact e
  · have := h.clN_lt e hi; omega
theorem ZCl.clN_has (h : ZCl n Z) {x : Nat} (hx : x ≤ n) : ∃ i, i < (classesL Z n).length ∧ x ∈ clN Z n i := by
  obtain ⟨c, hc, _, hxc⟩ := h.class_of_clock hx
  obtain ⟨i, hi, e⟩ := List.getElem_of_mem hc
  refine ⟨i, hi, ?_⟩
  unfold clN
  rw [List.getD_eq_getElem?_getD, List.getElem?_eq_getElem hi, e]; exact hxc
/-- What has been marked behind i classes and k of the next one. -/
structure Mk (n : Nat) (Z : List Int) (i k : Nat) (M : List Nat) (cnt : Nat) : Prop where
  len : M.length = n + 1
  done : ∀ a x, a < i → x ∈ clN Z n a → M.getD x 0 = a + 1
  part : ∀ x, x ∈ (clN Z n i).take k → M.getD x 0 = i + 1
  rest : ∀ x, x ≤ n → (∀ a, a < i → x ∉ clN Z n a) → x ∉ (clN Z n i).take k → M.getD x 0 = 0
  cnt : cnt = ((((classesL Z n).take i).map List.length).sum) + k
theorem Mk.start : Mk n Z 0 0 (List.replicate (n + 1) 0) 0 :=
  ⟨by simp, fun a x ha => absurd ha (Nat.not_lt_zero _), fun x hx => by simp at hx, fun x _ _ _ => by
    rw [List.getD_eq_getElem?_getD, List.getElem?_replicate]; split <;> rfl, by simp⟩
theorem ZCl.mk_zero (h : ZCl n Z) {i k : Nat} {M : List Nat} {cnt : Nat} (hm : Mk n Z i k M cnt) (hi : i < (classesL Z n).length) (hk : k < (clN Z n i).length) :
    (clN Z n i).getD k 0 ≤ n ∧ M.getD ((clN Z n i).getD k 0) 0 = 0 := by
  have hx : (clN Z n i).getD k 0 ∈ clN Z n i := getD_mem hk
  obtain ⟨_, cm, _, cn, _⟩ := h.class_of (clN_mem hi)
  have hxn := ((cm _).1 hx).1
  refine ⟨hxn, hm.rest _ hxn (fun a ha hx2 => ?_) (fun hx2 => ?_)⟩
  · have := h.clN_apart (by omega) hi hx2 hx; omega
  · obtain ⟨j, hj, e⟩ := List.getElem_of_mem hx2
    rw [List.length_take] at hj
    rw [List.getElem_take] at e
    have e2 : (clN Z n i).getD j 0 = (clN Z n i).getD k 0 := by
      rw [List.getD_eq_getElem?_getD, List.getElem?_eq_getElem (by omega)]; exact e
    have := getD_inj cn (by omega) hk e2
    omega
theorem ZCl.mk_put (h : ZCl n Z) {i k : Nat} {M : List Nat} {cnt : Nat} (hm : Mk n Z i k M cnt) (hi : i < (classesL Z n).length) (hk : k < (clN Z n i).length) :
    Mk n Z i (k + 1) (M.set ((clN Z n i).getD k 0) (i + 1)) (cnt + 1) := by
  obtain ⟨hxn, _⟩ := h.mk_zero hm hi hk
  have hx : (clN Z n i).getD k 0 ∈ clN Z n i := getD_mem hk
  have htake : (clN Z n i).take (k + 1) = (clN Z n i).take k ++ [(clN Z n i).getD k 0] := by
    rw [List.take_succ_eq_append_getElem hk, List.getD_eq_getElem?_getD, List.getElem?_eq_getElem hk]; rfl
  have hget : ∀ y, (M.set ((clN Z n i).getD k 0) (i + 1)).getD y 0 = if y = (clN Z n i).getD k 0 then i + 1 else M.getD y 0 := fun y => by
    rw [List.getD_eq_getElem?_getD, List.getElem?_set]
    by_cases e : (clN Z n i).getD k 0 = y
    · rw [if_pos e, if_pos e.symm, if_pos (by rw [hm.len]; omega)]; rfl
    · rw [if_neg e, if_neg (fun e2 => e e2.symm), List.getD_eq_getElem?_getD]
  refine ⟨by rw [List.length_set, hm.len], fun a y ha hy => ?_, fun y hy => ?_, fun y hyn h1 h2 => ?_, by rw [hm.cnt]; omega⟩
  · rw [hget, if_neg (fun e => ?_)]
    · exact hm.done a y ha hy
    · subst e
      have := h.clN_apart (by omega) hi hy hx; omega
  · rw [hget]
    split
    · rfl
    · rename_i e
      rw [htake, List.mem_append] at hy
      rcases hy with hy | hy
      · exact hm.part y hy
      · exact absurd (by simpa using hy) e
  · rw [htake, List.mem_append] at h2
    rw [hget, if_neg (fun e => h2 (.inr (by simp [e])))]
    exact hm.rest y hyn h1 (fun e => h2 (.inl e))
theorem Mk.next {i : Nat} {M : List Nat} {cnt : Nat} (hm : Mk n Z i (clN Z n i).length M cnt) (hi : i < (classesL Z n).length) : Mk n Z (i + 1) 0 M cnt := by
  have hp := hm.part
  have hr := hm.rest
  rw [List.take_length] at hp hr
  refine ⟨hm.len, fun a x ha hx => ?_, fun x hx => by simp at hx, fun x hxn h1 _ => hr x hxn (fun a ha => h1 a (by omega)) (h1 i (by omega)), ?_⟩
  · by_cases e : a = i
    · subst e; exact hp x hx
    · exact hm.done a x (by omega) hx
  · rw [hm.cnt, List.take_succ_eq_append_getElem hi, List.map_append, List.sum_append]
    have : clN Z n i = (classesL Z n)[i] := by unfold clN; rw [List.getD_eq_getElem?_getD, List.getElem?_eq_getElem hi]; rfl
    rw [this]
    simp
theorem ZCl.mk_same (h : ZCl n Z) {M : List Nat} {cnt : Nat} (hm : Mk n Z (classesL Z n).length 0 M cnt) {x y : Nat} (hx : x ≤ n) (hy : y ≤ n) : M.getD x 0 = M.getD y 0 ↔ Tie Z x y := by
  obtain ⟨i, hi, hxi⟩ := h.clN_has hx
  obtain ⟨j, hj, hyj⟩ := h.clN_has hy
  rw [hm.done i x hi hxi, hm.done j y hj hyj, ← h.head_iff hx hy]
  have a := ((h.class_of (clN_mem hi)).2.1 x).1 hxi
  have b := ((h.class_of (clN_mem hj)).2.1 y).1 hyj
  rw [a.2, b.2]
  constructor
  · intro e
    have : i = j := by omega
    rw [this]
  · intro e
    rcases Nat.lt_trichotomy i j with q | q | q
    · have := h.clN_lt q hj; omega
    · omega
    · have := h.clN_lt q hi; omega
theorem flatten_length_nat (l : List (List Nat)) : l.flatten.length = (l.map List.length).sum := by simp [List.length_flatten]
theorem ZCl.mk_count (h : ZCl n Z) {M : List Nat} {cnt : Nat} (hm : Mk n Z (classesL Z n).length 0 M cnt) : cnt = n + 1 := by
  have e := hm.cnt
  rw [List.take_length, ← flatten_length_nat, Nat.add_zero] at e
  have hnd : (classesL Z n).flatten.Nodup := by
    unfold List.Nodup
    rw [List.pairwise_flatten]
    refine ⟨fun c hc => (h.class_of hc).2.2.2.1, h.classes_nodup.imp_of_mem (fun {c d} hc hd1 hne x hx y hy e => ?_)⟩
    subst e
    have a := ((h.class_of hc).2.1 x).1 hx
    have b := ((h.class_of hd1).2.1 x).1 hy
    exact hne (a.2.symm.trans b.2)
  have h1 : (classesL Z n).flatten.length ≤ (List.range (n + 1)).length := length_le_of_subset hnd (fun x hx => by
    rw [List.mem_flatten] at hx
    obtain ⟨c, hc, hxc⟩ := hx
    have := ((h.class_of hc).2.1 x).1 hxc
    exact List.mem_range.2 (by omega))
  have h2 : (List.range (n + 1)).length ≤ (classesL Z n).flatten.length := length_le_of_subset List.nodup_range (fun x hx => by
    have := List.mem_range.1 hx
    obtain ⟨c, hc, _, hxc⟩ := h.class_of_clock (show x ≤ n by omega)
    rw [List.mem_flatten]
    exact ⟨c, hc, hxc⟩)
  rw [List.length_range] at h1 h2
  omega
/-- A difference is settled, as the law asks it. -/
def settledB (a b : Int) : Bool := decide (a ≠ INF) && decide (b ≠ INF) && decide (a + b ≤ 2) && decide (a % 2 = 1) && decide (b % 2 = 1)
theorem ZCl.settled_iff (h : ZCl n Z) {x y : Nat} (hx : x ≤ n) (hy : y ≤ n) : settledB (cellN Z x y) (cellN Z y x) = true ↔ Tie Z x y := by
  unfold settledB
  simp only [Bool.and_eq_true, decide_eq_true_eq]
  constructor
  · rintro ⟨⟨⟨⟨h1, h2⟩, h3⟩, h4⟩, h5⟩
    refine ⟨h1, h2, ?_⟩
    have := (h.tri x y x hx hy hx h1 h2).2
    rw [h.diag x hx] at this
    unfold plus2 at this ⊢
    rw [if_pos (.inl h4)] at this ⊢
    omega
  · intro t
    have := t.odd
    exact ⟨⟨⟨⟨t.1, t.2.1⟩, by omega⟩, this.1⟩, this.2.1⟩
end
end Go.Proofs.Ytapfihlgemejiaa
-- Plain: the few bounds of a zone make it.
namespace Go.Proofs.Ytapfihlgemejiaa

/-! ### a matrix without a valuation has a walk that says so -/
theorem lpO_stuck {α : Type} (P : α → Prop) (f : Nat → α → Option α) : ∀ (m : Nat) (a : α), P a → (∀ i a b, i < m → P a → f i a = some b → P b) → lpO f m a = none → ∃ i b, i < m ∧ P b ∧ f i b = none
  | 0, a, _, _, h => by cases h
  | m + 1, a, h0, hs, h => by
    rw [lpO_succ] at h
    cases hq : lpO f m a with
    | none =>
      obtain ⟨i, b, hi, hb, e⟩ := lpO_stuck P f m a h0 (fun i a b hi => hs i a b (by omega)) hq
      exact ⟨i, b, by omega, hb, e⟩
    | some b =>
      rw [hq] at h
      exact ⟨m, b, by omega, lpO_inv P f m a b h0 (fun i a b hi => hs i a b (by omega)) hq, h⟩
def AllWk (n : Nat) (L M : List Int) : Prop := M.length = 81 ∧ ∀ p q, p ≤ n → q ≤ n → gt M (9 * p + q) ≠ NONE → Wk n L p q (gt M (9 * p + q))
theorem AllWk.cell {n : Nat} {L M : List Int} (h : AllWk n L M) (hn : n ≤ 8) {k i j : Nat} (hk : k ≤ n) (hi : i ≤ n) (hj : j ≤ n) : AllWk n L (cellL k i j M) := by
  refine ⟨by rw [cellL_length, h.1], fun p q hp hq hne => ?_⟩
  unfold cellL at hne ⊢
  rw [gt_st_cell _ _ _ _ _ _ h.1 (by omega) (by omega) (by omega)] at hne ⊢
  split at hne
  · rename_i e
    rw [if_pos e]
    obtain ⟨rfl, rfl⟩ := e
    rcases mn_cases (gt M (9 * p + q)) (sumI (gt M (9 * p + k)) (gt M (9 * k + q))) with e | e
    · rw [e] at hne ⊢; exact h.2 p q hp hq hne
    · rw [e] at hne ⊢
      have h1 : gt M (9 * p + k) ≠ NONE := fun e => hne (by unfold sumI; rw [if_pos (.inl e)])
      have h2 : gt M (9 * k + q) ≠ NONE := fun e => hne (by unfold sumI; rw [if_pos (.inr e)])
      rw [sumI_fin h1 h2]
      exact (h.2 p k hp hk h1).cat (h.2 k q hk hq h2)
  · rename_i e
    rw [if_neg e]
    exact h.2 p q hp hq hne
theorem AllWk.loop {n : Nat} {L : List Int} (f : Nat → List Int → List Int) (m : Nat) (a : List Int) (h0 : AllWk n L a) (hs : ∀ b j, j < m → AllWk n L b → AllWk n L (f j b)) : AllWk n L (lp f m a) := by
  induction m with
  | zero => exact h0
  | succ m ih => rw [lp_succ]; exact hs _ m (by omega) (ih (fun b j hj => hs b j (by omega)))
theorem AllWk.row {n : Nat} {L M : List Int} (h : AllWk n L M) (hn : n ≤ 8) {k i : Nat} (hk : k ≤ n) (hi : i ≤ n) : AllWk n L (rowL n k i M) :=
  AllWk.loop (fun j => cellL k i j) (n + 1) M h (fun _ j hj hm => hm.cell hn hk hi (by omega))
theorem close_stuck {n : Nat} {L : List Int} (hn : n ≤ 8) (hL : L.length = 81) (h : closeL n L = none) : ∃ i c, i ≤ n ∧ Wk n L i i c ∧ c < 1 := by
  have hrow : ∀ k i a b, k < n + 1 → i < n + 1 → AllWk n L a → rowO n k i a = some b → AllWk n L b := fun k i a b hk hi ha hb => by
    unfold rowO at hb
    split at hb
    · cases hb
    · cases hb; exact ha.row hn (by omega) (by omega)
  have hround : ∀ k a b, k < n + 1 → AllWk n L a → lpO (fun i L => rowO n k i L) (n + 1) a = some b → AllWk n L b := fun k a b hk ha hb =>
    lpO_inv (AllWk n L) _ _ _ _ ha (fun i a b hi ha hb => hrow k i a b hk hi ha hb) hb
  obtain ⟨k, M, hk, hM, h1⟩ := lpO_stuck (AllWk n L) _ (n + 1) L ⟨hL, fun p q hp hq hne => .one hp hq rfl hne⟩ (fun k a b hk ha hb => hround k a b hk ha hb) h
  obtain ⟨i, N, hi, hN, h2⟩ := lpO_stuck (AllWk n L) _ (n + 1) M hM (fun i a b hi ha hb => hrow k i a b hk hi ha hb) h1
  unfold rowO at h2
  split at h2
  · rename_i hlt
    have hr := hN.row hn (k := k) (i := i) (by omega) (by omega)
    rw [show 10 * i = 9 * i + i by omega] at hlt
    exact ⟨i, _, by omega, hr.2 i i (by omega) (by omega) (by unfold NONE; omega), hlt⟩
  · cases h2
theorem zone_stuck {n : Nat} {A : List Int} (h : zoneL n A = none) : ∃ p q, p ≤ n ∧ q ≤ n ∧ gt A (9 * p + q) ≠ NONE ∧ (gt A (9 * p + q) < -536870912 ∨ 536870913 < gt A (9 * p + q)) := by
  obtain ⟨i, M, hi, _, h1⟩ := lpO_stuck (fun _ => True) _ (n + 1) zeros trivial (fun _ _ _ _ _ _ => trivial) h
  obtain ⟨j, N, hj, _, h2⟩ := lpO_stuck (fun _ => True) _ (n + 1) M trivial (fun _ _ _ _ _ _ => trivial) h1
  refine ⟨i, j, by omega, by omega, ?_⟩
  unfold outL at h2
  split at h2
  · cases h2
  · rename_i h3
    split at h2
    · rename_i h4; exact ⟨h3, h4⟩
    · cases h2

section
variable {n : Nat} {Z L : List Int}
/-- All edges are no less than the zone's cells. -/
def Above (n : Nat) (Z L : List Int) : Prop := ∀ p q, p ≤ n → q ≤ n → gt L (9 * p + q) ≠ NONE → cellN Z p q ≠ INF ∧ cellN Z p q ≤ gt L (9 * p + q)
theorem ZCl.close_some (h : ZCl n Z) (hl : L.length = 81) (ha : Above n Z L) : closeL n L ≠ none := fun e => by
  obtain ⟨i, c, hi, hw, hc⟩ := close_stuck h.dim hl e
  obtain ⟨_, _, _, h4⟩ := hw.ge h ha
  rw [h.diag i hi] at h4
  omega
theorem Half.le_wk {A : List Int} (h : Half n (n + 1) L A) (hs : ∀ p q, p ≤ n → q ≤ n → gt A (9 * p + q) ≠ NONE → gt A (9 * p + q) ≤ 1073741824000000) (hL : ∀ p q, p ≤ n → q ≤ n → gt L (9 * p + q) ≠ NONE → gt L (9 * p + q) ≤ 1073741824) {p q : Nat} {s : Int} (hw : Wk n L p q s) :
    p ≤ n ∧ q ≤ n ∧ gt A (9 * p + q) ≠ NONE ∧ gt A (9 * p + q) ≤ s := by
  induction hw with
  | @one p q c hp hq e hn =>
    subst e
    have h1 := h.le p q hp hq
    have h2 := hL p q hp hq hn
    exact ⟨hp, hq, (fun e => by rw [e] at h1; unfold NONE at h1; omega), h1⟩
  | @cons p k q a b hp hk e hn _ ih =>
    subst e
    obtain ⟨_, hq, i3, i4⟩ := ih
    have h1 := h.le p k hp hk
    have h2 := hL p k hp hk hn
    have f1 : gt A (9 * p + k) ≠ NONE := fun e => by rw [e] at h1; unfold NONE at h1; omega
    have t := h.tri p k q hp (by omega) hk hq f1 i3
    have b1 := hs p k hp hk f1
    have b2 := hs k q hk hq i3
    refine ⟨hp, hq, fun e => ?_, Int.le_trans t (plus2_mono h1 i4)⟩
    rw [e] at t
    have := plus2_num (gt A (9 * p + k)) (gt A (9 * k + q))
    unfold NONE at t; omega
/-- A matrix that lies above a zone and generates it makes it. -/
theorem ZCl.made (h : ZCl n Z) (hs : Start n L) (ha : Above n Z L) (hg : ∀ p q, p ≤ n → q ≤ n → cellN Z p q ≠ INF → ∃ s, Wk n L p q s ∧ s ≤ cellN Z p q) : zoneOf n L = .ok Z := by
  have hn := h.dim
  cases hc : closeL n L with
  | none => exact absurd hc (h.close_some hs.len ha)
  | some A =>
    obtain ⟨hh, hd, hl⟩ := closed_of n L A hn hs hc
    have hb : ∀ p q, p ≤ n → q ≤ n → gt A (9 * p + q) ≠ NONE → cellN Z p q ≠ INF ∧ cellN Z p q ≤ gt A (9 * p + q) := fun p q hp hq hne => by
      obtain ⟨_, _, h3, h4⟩ := (hh.wk p q hp hq hne).ge h ha
      exact ⟨h3, h4⟩
    have hLb : ∀ p q, p ≤ n → q ≤ n → gt L (9 * p + q) ≠ NONE → gt L (9 * p + q) ≤ 1073741824 := fun p q _ _ hne => ((hs.bd (9 * p + q)).resolve_left hne).2
    -- every cell of A is a walk's sum: bounded above by what the closing's heads say
    have hAb : ∀ p q, p ≤ n → q ≤ n → gt A (9 * p + q) ≠ NONE → gt A (9 * p + q) ≤ 1073741824000000 := fun p q hp hq hne => by
      have := heads n L hn (by omega) hs.head (n + 1) (Nat.le_refl _) A hc
      have h1 := (this.bd (9 * p + q)).resolve_left hne
      have hk : n = 0 ∨ n = 1 ∨ n = 2 ∨ n = 3 ∨ n = 4 ∨ n = 5 ∨ n = 6 ∨ n = 7 ∨ n = 8 := by omega
      have h2 : (4 : Int) ^ (n + 1) * 1073741824 ≤ 1073741824000000 := by
        rcases hk with rfl | rfl | rfl | rfl | rfl | rfl | rfl | rfl | rfl <;> decide
      omega
    have heq : ∀ p q, p ≤ n → q ≤ n → (cellN Z p q = INF ∧ gt A (9 * p + q) = NONE) ∨ (cellN Z p q ≠ INF ∧ gt A (9 * p + q) = cellN Z p q) := fun p q hp hq => by
      by_cases e : gt A (9 * p + q) = NONE
      · left
        refine ⟨?_, e⟩
        by_cases e2 : cellN Z p q = INF
        · exact e2
        · obtain ⟨s, hw, _⟩ := hg p q hp hq e2
          exact absurd e (hh.le_wk hAb hLb hw).2.2.1
      · right
        obtain ⟨b1, b2⟩ := hb p q hp hq e
        obtain ⟨s, hw, hs2⟩ := hg p q hp hq b1
        have := (hh.le_wk hAb hLb hw).2.2.2
        exact ⟨b1, by omega⟩
    unfold zoneOf
    rw [hc]
    simp only
    cases hq : zoneL n A with
    | none =>
      exfalso
      obtain ⟨p, q, hp, hq', h1, h2⟩ := zone_stuck hq
      rcases heq p q hp hq' with ⟨_, e⟩ | ⟨e1, e2⟩
      · exact h1 e
      · have := (h.rng p q hp hq').resolve_left e1
        omega
    | some Y =>
      simp only
      congr 1
      obtain ⟨y1, y2, y3⟩ := outAll hn (n + 1) (Nat.le_refl _) zeros Y zeros_length hq
      apply List.ext_getElem (by rw [y1, h.len])
      intro t h1 h2
      rw [y1] at h1
      have e : gt Y t = gt Z t := by
        rw [show t = 9 * (t / 9) + t % 9 by omega]
        by_cases hin : t / 9 ≤ n ∧ t % 9 ≤ n
        · rcases y2 (t / 9) (t % 9) (by omega) hin.2 with ⟨a1, a2⟩ | ⟨a1, a2, a3⟩
          · rw [a2]
            rcases heq (t / 9) (t % 9) hin.1 hin.2 with ⟨e1, _⟩ | ⟨e1, e2⟩
            · exact e1.symm
            · have := (h.rng _ _ hin.1 hin.2).resolve_left e1
              rw [a1] at e2; unfold NONE at e2; omega
          · rw [a3]
            rcases heq (t / 9) (t % 9) hin.1 hin.2 with ⟨_, e2⟩ | ⟨_, e2⟩
            · rw [e2] at a2; unfold NONE at a2; omega
            · exact e2
        · rw [y3 (t / 9) (t % 9) (by omega) (by omega), zeros_gt]
          exact (h.out (t / 9) (t % 9) (by omega) hin).symm
      unfold gt at e
      rw [List.getD_eq_getElem?_getD, List.getD_eq_getElem?_getD, List.getElem?_eq_getElem (by omega), List.getElem?_eq_getElem (by omega)] at e
      exact e
end
end Go.Proofs.Ytapfihlgemejiaa
-- Plain: the few bounds generate the zone; without one of them it is greater.
namespace Go.Proofs.Ytapfihlgemejiaa

theorem filter_lt {α : Type} (p q : α → Bool) : ∀ (l : List α), (∀ x, x ∈ l → p x = true → q x = true) → (∃ x, x ∈ l ∧ q x = true ∧ p x = false) → (l.filter p).length < (l.filter q).length
  | [], _, h => by obtain ⟨x, hx, _⟩ := h; cases hx
  | a :: l, h1, h2 => by
    have hle : ∀ l' : List α, (∀ x, x ∈ l' → p x = true → q x = true) → (l'.filter p).length ≤ (l'.filter q).length := fun l' h => by
      induction l' with
      | nil => exact Nat.le_refl _
      | cons b l' ih =>
        have ih := ih (fun x hx => h x (List.mem_cons_of_mem _ hx))
        have hb := h b List.mem_cons_self
        cases hpb : p b
        · cases hqb : q b <;> simp [hpb, hqb] <;> omega
        · simp [hpb, hb hpb]; omega
    have ha := h1 a List.mem_cons_self
    have ht := hle l (fun x hx => h1 x (List.mem_cons_of_mem _ hx))
    obtain ⟨x, hx, hq, hp⟩ := h2
    rcases List.mem_cons.1 hx with rfl | hx
    · simp [hp, hq]; omega
    · have := filter_lt p q l (fun x hx => h1 x (List.mem_cons_of_mem _ hx)) ⟨x, hx, hq, hp⟩
      cases hpa : p a
      · cases hqa : q a <;> simp [hpa, hqa] <;> omega
      · simp [hpa, ha hpa]; omega

section
variable {n : Nat} {Z L : List Int}
/-- Is there a walk that is no greater than the zone's cell? -/
def Gen (n : Nat) (Z L : List Int) (p q : Nat) : Prop := ∃ s, Wk n L p q s ∧ s ≤ cellN Z p q
theorem Gen.trans {p k q : Nat} (h1 : Gen n Z L p k) (h2 : Gen n Z L k q) (h : plus2 (cellN Z p k) (cellN Z k q) ≤ cellN Z p q) : Gen n Z L p q := by
  obtain ⟨s, hs, ls⟩ := h1
  obtain ⟨t, ht, lt⟩ := h2
  exact ⟨_, hs.cat ht, Int.le_trans (plus2_mono ls lt) h⟩
/-- What the matrix holds: at least as strict as the few bounds, and as what holds anyway. -/
structure FewIn (n : Nat) (Z L : List Int) : Prop where
  few : ∀ e, e ∈ fewL Z n → e.1 ≤ n → e.2 ≤ n → gt L (9 * e.1 + e.2) ≠ NONE ∧ gt L (9 * e.1 + e.2) ≤ cellN Z e.1 e.2
  free : ∀ p q, p ≤ n → q ≤ n → (p = q ∨ p = 0) → gt L (9 * p + q) ≠ NONE ∧ gt L (9 * p + q) ≤ 1
theorem FewIn.gen_free (hf : FewIn n Z L) {p q : Nat} (hp : p ≤ n) (hq : q ≤ n) (h : p = q ∨ p = 0) (h1 : cellN Z p q = 1) : Gen n Z L p q := by
  obtain ⟨a, b⟩ := hf.free p q hp hq h
  exact ⟨_, .one hp hq rfl a, by rw [h1]; exact b⟩
/-- Within a class. -/
theorem ZCl.gen_class (hz : ZCl n Z) (hf : FewIn n Z L) {c : List Nat} (hc : c ∈ classesL Z n) {x y : Nat} (hx : x ∈ c) (hy : y ∈ c) : Gen n Z L x y := by
  obtain ⟨_, cm, _, cnd, _⟩ := hz.class_of hc
  have ties : ∀ u v, u ∈ c → v ∈ c → Tie Z u v := fun u v hu hv => by
    have a := (cm u).1 hu
    have b := (cm v).1 hv
    exact (hz.head_iff a.1 b.1).1 (a.2.trans b.2.symm)
  have hle : ∀ u, u ∈ c → u ≤ n := fun u hu => ((cm u).1 hu).1
  have hmr : ∀ t, t < (roundL Z c).length → (roundL Z c).getD t 0 ∈ c := fun t ht => mem_roundL_iff.1 (getD_mem ht)
  -- one step round
  have step : ∀ t, t < (roundL Z c).length → Gen n Z L ((roundL Z c).getD t 0) ((roundL Z c).getD ((t + 1) % (roundL Z c).length) 0) := fun t ht => by
    by_cases h1 : 1 < (roundL Z c).length
    · obtain ⟨_, n2⟩ := next_ne ht h1
      have m1 := hmr t ht
      have m2 := hmr _ n2
      by_cases h2 : (roundL Z c).getD t 0 ≠ 0 ∨ cellN Z 0 ((roundL Z c).getD ((t + 1) % (roundL Z c).length) 0) ≠ 1
      · have hmem : ((roundL Z c).getD t 0, (roundL Z c).getD ((t + 1) % (roundL Z c).length) 0) ∈ fewL Z n := by
          refine mem_fewL.2 (.inl ⟨c, hc, ?_⟩)
          unfold roundPuts
          rw [List.mem_filterMap]
          exact ⟨t, List.mem_range.2 ht, by rw [if_pos ⟨h1, h2⟩]⟩
        obtain ⟨a, b⟩ := hf.few _ hmem (hle _ m1) (hle _ m2)
        exact ⟨_, .one (hle _ m1) (hle _ m2) rfl a, b⟩
      · have e0 : (roundL Z c).getD t 0 = 0 := by
          by_cases e : (roundL Z c).getD t 0 = 0
          · exact e
          · exact absurd (.inl e) h2
        have e1 : cellN Z 0 ((roundL Z c).getD ((t + 1) % (roundL Z c).length) 0) = 1 := by
          by_cases e : cellN Z 0 ((roundL Z c).getD ((t + 1) % (roundL Z c).length) 0) = 1
          · exact e
          · exact absurd (.inr e) h2
        rw [e0]
        exact hf.gen_free (Nat.zero_le _) (hle _ m2) (.inr rfl) e1
    · have e : (roundL Z c).length = 1 := by omega
      have ht0 : t = 0 := by omega
      subst ht0
      rw [e]
      have m1 := hmr 0 ht
      exact hf.gen_free (hle _ m1) (hle _ m1) (.inl rfl) (hz.diag _ (hle _ m1))
  obtain ⟨s, hs, es⟩ := List.getElem_of_mem (mem_roundL_iff.2 hx : x ∈ roundL Z c)
  obtain ⟨t, ht, et⟩ := List.getElem_of_mem (mem_roundL_iff.2 hy : y ∈ roundL Z c)
  have gs : (roundL Z c).getD s 0 = x := by rw [List.getD_eq_getElem?_getD, List.getElem?_eq_getElem hs]; exact es
  have gtt : (roundL Z c).getD t 0 = y := by rw [List.getD_eq_getElem?_getD, List.getElem?_eq_getElem ht]; exact et
  have walk : ∀ d, Gen n Z L x ((roundL Z c).getD ((s + d) % (roundL Z c).length) 0) := fun d => by
    induction d with
    | zero =>
      rw [Nat.add_zero, Nat.mod_eq_of_lt hs, gs]
      exact hf.gen_free (hle x hx) (hle x hx) (.inl rfl) (hz.diag x (hle x hx))
    | succ d ih =>
      have hm : (s + d) % (roundL Z c).length < (roundL Z c).length := Nat.mod_lt _ (by omega)
      have h2 := step _ hm
      have e : ((s + d) % (roundL Z c).length + 1) % (roundL Z c).length = (s + (d + 1)) % (roundL Z c).length := by
        rw [Nat.mod_add_mod, Nat.add_assoc]
      rw [e] at h2
      have m1 := hmr _ hm
      have m2 := hmr ((s + (d + 1)) % (roundL Z c).length) (Nat.mod_lt _ (by omega))
      refine ih.trans h2 ?_
      have := (hz.shiftL (hle x hx) (hle _ m1) (hle _ m2) (ties _ _ hx m1)).2 (ties _ _ m1 m2).1
      rw [this]
      exact Int.le_refl _
  have hd1 := walk (t + (roundL Z c).length - s)
  have e : (s + (t + (roundL Z c).length - s)) % (roundL Z c).length = t := by
    rw [show s + (t + (roundL Z c).length - s) = t + (roundL Z c).length by omega, Nat.add_mod_right, Nat.mod_eq_of_lt ht]
  rw [e, gtt] at hd1
  exact hd1
/-- Is a class on the way from one head to another? -/
def between (Z : List Int) (i j : Nat) (c : List Nat) : Bool := decide (hd c ≠ i) && decide (hd c ≠ j) && decide (cellN Z i (hd c) ≠ INF) && decide (cellN Z (hd c) j ≠ INF) && decide (plus2 (cellN Z i (hd c)) (cellN Z (hd c) j) ≤ cellN Z i j)
theorem between_iff {i j : Nat} {c : List Nat} : between Z i j c = true ↔ hd c ≠ i ∧ hd c ≠ j ∧ cellN Z i (hd c) ≠ INF ∧ cellN Z (hd c) j ≠ INF ∧ plus2 (cellN Z i (hd c)) (cellN Z (hd c) j) ≤ cellN Z i j := by
  unfold between
  simp only [Bool.and_eq_true, decide_eq_true_eq, and_assoc]
/-- Of two classes there and back is more than nothing. -/
theorem ZCl.round_trip (hz : ZCl n Z) {i j : Nat} (hi : IsHead Z n i) (hj : IsHead Z n j) (hne : i ≠ j) (h1 : cellN Z i j ≠ INF) (h2 : cellN Z j i ≠ INF) : 2 ≤ plus2 (cellN Z i j) (cellN Z j i) := by
  have h3 := (hz.tri i j i hi.1 hj.1 hi.1 h1 h2).2
  rw [hz.diag i hi.1] at h3
  by_cases e : plus2 (cellN Z i j) (cellN Z j i) = 1
  · exact absurd ((hi.2.symm.trans ((hz.head_iff hi.1 hj.1).2 ⟨h1, h2, e⟩)).trans hj.2) hne
  · omega
theorem plus2_grow {a u : Int} (h : 2 ≤ u) : a < plus2 a u := by
  have h1 := plus2_num a u
  have h2 := plus2_odd a u
  omega
theorem ZCl.between_left (hz : ZCl n Z) {i j : Nat} (hj : IsHead Z n j) {c : List Nat} (hc : c ∈ classesL Z n) (hb : between Z i j c = true) {d : List Nat} (hdm : d ∈ classesL Z n) (h : between Z i (hd c) d = true) : between Z i j d = true := by
  obtain ⟨b1, b2, b3, b4, b5⟩ := between_iff.1 hb
  obtain ⟨a1, a2, a3, a4, a5⟩ := between_iff.1 h
  have hk := (hz.class_of hc).1
  have hl := (hz.class_of hdm).1
  obtain ⟨f1, t1⟩ := hz.tri (hd d) (hd c) j hl.1 hk.1 hj.1 a4 b4
  have hne : hd d ≠ j := fun e => by
    rw [e] at a3 a4 a5
    have u1 := plus2_mono a5 (Int.le_refl (cellN Z (hd c) j))
    rw [plus2_assoc] at u1
    have := plus2_grow (a := cellN Z i j) (hz.round_trip hj hk (fun e => b2 e.symm) a4 b4)
    omega
  refine between_iff.2 ⟨a1, hne, a3, f1, ?_⟩
  have u1 := plus2_mono (Int.le_refl (cellN Z i (hd d))) t1
  have u2 := plus2_mono a5 (Int.le_refl (cellN Z (hd c) j))
  rw [plus2_assoc] at u2
  omega
theorem ZCl.between_right (hz : ZCl n Z) {i j : Nat} (hi : IsHead Z n i) {c : List Nat} (hc : c ∈ classesL Z n) (hb : between Z i j c = true) {d : List Nat} (hdm : d ∈ classesL Z n) (h : between Z (hd c) j d = true) : between Z i j d = true := by
  obtain ⟨b1, b2, b3, b4, b5⟩ := between_iff.1 hb
  obtain ⟨a1, a2, a3, a4, a5⟩ := between_iff.1 h
  have hk := (hz.class_of hc).1
  have hl := (hz.class_of hdm).1
  obtain ⟨f1, t1⟩ := hz.tri i (hd c) (hd d) hi.1 hk.1 hl.1 b3 a3
  have hne : hd d ≠ i := fun e => by
    rw [e] at a3 a4 a5
    have u1 := plus2_mono (Int.le_refl (cellN Z i (hd c))) a5
    rw [← plus2_assoc] at u1
    have := plus2_grow (a := cellN Z i j) (hz.round_trip hi hk (fun e => b1 e.symm) b3 a3)
    rw [plus2_comm (plus2 _ _)] at u1
    have u3 := plus2_comm (cellN Z i j) (plus2 (cellN Z i (hd c)) (cellN Z (hd c) i))
    omega
  refine between_iff.2 ⟨hne, a2, f1, a4, ?_⟩
  have u1 := plus2_mono t1 (Int.le_refl (cellN Z (hd d) j))
  have u2 := plus2_mono (Int.le_refl (cellN Z i (hd c))) a5
  rw [plus2_assoc] at u1
  omega
/-- One step: the bound itself is one of the few, or holds anyway, or there is a way. -/
theorem ZCl.gen_step (hz : ZCl n Z) (hf : FewIn n Z L) {i j : Nat} (hi : IsHead Z n i) (hj : IsHead Z n j) (hne : i ≠ j) (hfin : cellN Z i j ≠ INF)
    (hway : ∀ c, c ∈ classesL Z n → between Z i j c = true → Gen n Z L i j) : Gen n Z L i j := by
  obtain ⟨ci, hci, hhi, _⟩ := hz.class_of_clock hi.1
  obtain ⟨d, hdm, hhd, _⟩ := hz.class_of_clock hj.1
  rw [hi.2] at hhi
  rw [hj.2] at hhd
  cases hnd : neededB Z i d (classesL Z n) with
  | true =>
    have hmem : (i, j) ∈ fewL Z n := mem_fewL.2 (.inr ⟨ci, d, hci, hdm, by rw [hhi, hhd]; exact hne, by rw [hhi]; exact hnd, by rw [hhi, hhd]⟩)
    obtain ⟨a, b⟩ := hf.few _ hmem hi.1 hj.1
    exact ⟨_, .one hi.1 hj.1 rfl a, b⟩
  | false =>
    unfold neededB at hnd
    rw [hhd] at hnd
    have hfin' : decide (cellN Z i j ≠ 2147483647) = true := decide_eq_true hfin
    rw [hfin', Bool.true_and, Bool.and_eq_false_iff] at hnd
    rcases hnd with hnd | hnd
    · simp only [Bool.not_eq_false', Bool.and_eq_true, decide_eq_true_eq, List.any_eq_true] at hnd
      obtain ⟨h0, a, ha, ha1⟩ := hnd
      subst h0
      have hcm := (hz.class_of hdm).2.1
      have hjd : j ∈ d := (hcm j).2 ⟨hj.1, by rw [hj.2, hhd]⟩
      have han := ((hcm a).1 ha).1
      have ht : Tie Z a j := (hz.head_iff han hj.1).1 (((hcm a).1 ha).2.trans (((hcm j).1 hjd).2).symm)
      have g1 := hf.gen_free (Nat.zero_le n) han (.inr rfl) ha1
      have g2 := hz.gen_class hf hdm ha hjd
      refine g1.trans g2 ?_
      have := (hz.shiftR hj.1 han (Nat.zero_le n) ht.symm).2 (by rw [ha1]; decide)
      rw [this]
      exact Int.le_refl _
    · simp only [Bool.not_eq_false', List.any_eq_true, Bool.and_eq_true, decide_eq_true_eq] at hnd
      obtain ⟨c, hc, ⟨c1, c2⟩, c3⟩ := hnd
      have hk := (hz.class_of hc).1
      have hr := (hz.rng i j hi.1 hj.1).resolve_left hfin
      obtain ⟨w1, w2, w3⟩ := (hz.way_le hi.1 hk.1 hj.1 hr.1 hr.2).1 c3
      exact hway c hc (between_iff.2 ⟨c1, c2, w1, w2, w3⟩)
/-- From head to head. -/
theorem ZCl.gen_heads (hz : ZCl n Z) (hf : FewIn n Z L) : ∀ (m : Nat) (i j : Nat), IsHead Z n i → IsHead Z n j → i ≠ j → cellN Z i j ≠ INF → ((classesL Z n).filter (between Z i j)).length ≤ m → Gen n Z L i j := by
  intro m
  induction m with
  | zero =>
    intro i j hi hj hne hfin hm
    refine hz.gen_step hf hi hj hne hfin (fun c hc hb => ?_)
    have : c ∈ (classesL Z n).filter (between Z i j) := List.mem_filter.2 ⟨hc, hb⟩
    rw [List.eq_nil_of_length_eq_zero (show ((classesL Z n).filter (between Z i j)).length = 0 by omega)] at this
    cases this
  | succ m ih =>
    intro i j hi hj hne hfin hm
    refine hz.gen_step hf hi hj hne hfin (fun c hc hb => ?_)
    obtain ⟨b1, b2, b3, b4, b5⟩ := between_iff.1 hb
    have hk := (hz.class_of hc).1
    have l1 := filter_lt (between Z i (hd c)) (between Z i j) (classesL Z n) (fun d hd1 h => hz.between_left hj hc hb hd1 h) ⟨c, hc, hb, by
      cases hq : between Z i (hd c) c with
      | false => rfl
      | true => exact absurd rfl (between_iff.1 hq).2.1⟩
    have l2 := filter_lt (between Z (hd c) j) (between Z i j) (classesL Z n) (fun d hd1 h => hz.between_right hi hc hb hd1 h) ⟨c, hc, hb, by
      cases hq : between Z (hd c) j c with
      | false => rfl
      | true => exact absurd rfl (between_iff.1 hq).1⟩
    exact (ih i (hd c) hi hk (fun e => b1 e.symm) b3 (by omega)).trans (ih (hd c) j hk hj b2 b4 (by omega)) b5
theorem ZCl.gen_all (hz : ZCl n Z) (hf : FewIn n Z L) {p q : Nat} (hp : p ≤ n) (hq : q ≤ n) (hfin : cellN Z p q ≠ INF) : Gen n Z L p q := by
  obtain ⟨cp, hcp, hhp, mp⟩ := hz.class_of_clock hp
  obtain ⟨cq, hcq, hhq, mq⟩ := hz.class_of_clock hq
  obtain ⟨ip, _, _, _, hmp⟩ := hz.class_of hcp
  obtain ⟨iq, _, _, _, hmq⟩ := hz.class_of hcq
  have tp : Tie Z p (hd cp) := by rw [hhp]; exact (hz.head_spec hp).2.1
  have tq : Tie Z q (hd cq) := by rw [hhq]; exact (hz.head_spec hq).2.1
  have f1 : cellN Z (hd cp) q ≠ INF := fun e => hfin ((hz.shiftL hp ip.1 hq tp).1.2 e)
  have e1 := (hz.shiftL hp ip.1 hq tp).2 f1
  have f2 : cellN Z (hd cp) (hd cq) ≠ INF := fun e => f1 ((hz.shiftR hq iq.1 ip.1 tq).1.2 e)
  have e2 := (hz.shiftR hq iq.1 ip.1 tq).2 f2
  have g1 := hz.gen_class hf hcp mp hmp
  have g3 := hz.gen_class hf hcq hmq mq
  have g2 : Gen n Z L (hd cp) (hd cq) := by
    by_cases e : hd cp = hd cq
    · rw [e]; exact hf.gen_free iq.1 iq.1 (.inl rfl) (hz.diag _ iq.1)
    · exact hz.gen_heads hf _ _ _ ip iq e f2 (Nat.le_refl _)
  exact g1.trans (g2.trans g3 (by rw [e2]; exact Int.le_refl _)) (by rw [e1]; exact Int.le_refl _)
/-- A bound of the few stands for a finite cell. -/
theorem ZCl.few_fin (hz : ZCl n Z) {e : Nat × Nat} (he : e ∈ fewL Z n) : e.1 ≤ n ∧ e.2 ≤ n ∧ cellN Z e.1 e.2 ≠ INF := by
  rcases mem_fewL.1 he with ⟨c, hc, he⟩ | ⟨c, d, hc, hd1, hne, hnd, rfl⟩
  · obtain ⟨a, b, h3⟩ := hz.few_key ⟨c, hc, he⟩
    exact ⟨a, b, ((hz.head_iff a b).1 h3).1⟩
  · refine ⟨(hz.class_of hc).1.1, (hz.class_of hd1).1.1, ?_⟩
    unfold neededB at hnd
    simp only [Bool.and_eq_true, decide_eq_true_eq] at hnd
    exact hnd.1.1
end

theorem limOf_ok {n : Nat} {Z : List Int} (hz : ZCl n Z) {e : Nat × Nat} (he : e ∈ fewL Z n) : limOk n (limOf Z e) = true ∧ (limOf Z e).b ≠ INF := by
  obtain ⟨a, b, c⟩ := hz.few_fin he
  have hr := (hz.rng _ _ a b).resolve_left c
  refine ⟨?_, c⟩
  unfold limOk limOf rightB
  simp only [Bool.and_eq_true, decide_eq_true_eq]
  exact ⟨⟨by omega, by omega, by omega, by omega⟩, .inr hr⟩
theorem limL_ok {n : Nat} {l : List Lim} (h : ∀ x, x ∈ l → limOk n x = true) : ∃ L, limL n l = some L := by
  cases hq : limL n l with
  | some L => exact ⟨L, rfl⟩
  | none =>
    exfalso
    obtain ⟨i, b, hi, _, e⟩ := lpO_stuck (fun _ => True) _ l.length (openL (n : Int).toNat) trivial (fun _ _ _ _ _ _ => trivial) hq
    have hm : l.getD i ⟨0, 0, 0⟩ ∈ l := by rw [List.getD_eq_getElem?_getD, List.getElem?_eq_getElem hi]; exact List.getElem_mem hi
    rw [if_pos (h _ hm)] at e
    cases e
/-- Bounds out of the few lie above the zone. -/
theorem above_of {n : Nat} {Z L : List Int} (hz : ZCl n Z) {l : List Lim} (hsub : ∀ x, x ∈ l → ∃ e, e ∈ fewL Z n ∧ x = limOf Z e) (hl : LimCells n l L) : Above n Z L := fun p q hp hq hne => by
  rcases hl.src p q hp hq hne with ⟨x, hx, x1, x2, x3, x4⟩ | ⟨hpq, e⟩
  · obtain ⟨e, he, rfl⟩ := hsub x hx
    obtain ⟨_, _, c⟩ := hz.few_fin he
    have e1 : (e.1 : Int) = p := x1
    have e2 : (e.2 : Int) = q := x2
    have e1 : e.1 = p := by omega
    have e2 : e.2 = q := by omega
    have x4 : cellN Z e.1 e.2 = gt L (9 * p + q) := x4
    rw [e1, e2] at c x4
    exact ⟨c, by omega⟩
  · rw [e]
    rcases hpq with rfl | rfl
    · rw [hz.diag p hp]; exact ⟨by decide, by omega⟩
    · have := hz.row0 q hq
      exact ⟨by unfold INF; omega, this⟩
theorem ne_none_of {L : List Int} {t : Nat} {c : Int} (hc : c ≤ 2000000000) (h : gt L t ≤ c) : gt L t ≠ NONE := fun e => by rw [e] at h; unfold NONE at h; omega
theorem few_empty_close {n : Nat} (hn : n ≤ 8) : limZ n [⟨0, 0, 0⟩] = .ok zeros := by
  rcases (show n = 0 ∨ n = 1 ∨ n = 2 ∨ n = 3 ∨ n = 4 ∨ n = 5 ∨ n = 6 ∨ n = 7 ∨ n = 8 by omega) with rfl | rfl | rfl | rfl | rfl | rfl | rfl | rfl | rfl <;> kernel_rfl
/-- The few bounds make the zone. -/
theorem few_make {n : Nat} {Z : List Int} (hz : ZCl n Z) : limZ n ((fewL Z n).map (limOf Z)) = .ok Z := by
  have hn := hz.dim
  have hf : fewB n = true := by unfold fewB; simp; omega
  obtain ⟨L, hL⟩ := limL_ok (n := n) (l := (fewL Z n).map (limOf Z)) (fun x hx => by
    rw [List.mem_map] at hx
    obtain ⟨e, he, rfl⟩ := hx
    exact (limOf_ok hz he).1)
  have hs := limL_start n hn _ _ L hL
  obtain ⟨hl, _⟩ := limCells hn _ _ (Nat.le_refl _) L hL
  rw [List.take_length] at hl
  unfold limZ
  rw [hf, hL]
  show zoneOf n L = .ok Z
  refine hz.made hs (above_of hz (fun x hx => by
    rw [List.mem_map] at hx
    obtain ⟨e, he, rfl⟩ := hx
    exact ⟨e, he, rfl⟩) hl) (fun p q hp hq hfin => hz.gen_all ⟨fun e he h1 h2 => ?_, fun p q hp hq hpq => ?_⟩ hp hq hfin)
  · have hle := hl.le (limOf Z e) (List.mem_map_of_mem he) (limOf_ok hz he).2 e.1 e.2 rfl rfl h1 h2
    have hr := (hz.rng _ _ h1 h2).resolve_left (hz.few_fin he).2.2
    have hle : gt L (9 * e.1 + e.2) ≤ cellN Z e.1 e.2 := hle
    exact ⟨ne_none_of (by omega) hle, hle⟩
  · have := hl.low p q hp hq hpq
    exact ⟨ne_none_of (by omega) this, this⟩
theorem fewN_make {z : Zn} (h : z.n ≤ 8 ∧ (z.Z = zeros ∨ ZCl z.n z.Z)) : limZ z.n (fewN z) = .ok z.Z := by
  obtain ⟨n, Z⟩ := z
  obtain ⟨hn, h | h⟩ := h
  · have h : Z = zeros := h
    subst h
    unfold fewN
    rw [if_pos zeros_empty]
    exact few_empty_close hn
  · have h : ZCl n Z := h
    unfold fewN
    rw [if_neg (by rw [h.not_empty]; decide)]
    exact few_make h
/-- Fewer of the few: an error of bounds, or a greater zone. -/
theorem fewer_greater {n : Nat} {Z : List Int} (hg : n ≤ 8 ∧ (Z = zeros ∨ ZCl n Z)) {l : List Lim} (hsub : ∀ x, x ∈ l → x ∈ fewN ⟨n, Z⟩) (hlt : l.length < (fewN ⟨n, Z⟩).length) :
    limZ n l = .err 10 ∨ ∃ Y, limZ n l = .ok Y ∧ Y ≠ Z ∧ inclB ⟨n, Y⟩ ⟨n, Z⟩ = true := by
  obtain ⟨hn, hg⟩ := hg
  have hf : fewB n = true := by unfold fewB; simp; omega
  have hok : ∀ x, x ∈ l → limOk n x = true := fun x hx => by
    have h1 := hsub x hx
    unfold fewN at h1
    rcases hg with rfl | hz
    · rw [if_pos zeros_empty] at h1
      have : x = ⟨0, 0, 0⟩ := by simpa using h1
      subst this
      unfold limOk rightB
      simp
    · rw [if_neg (by rw [hz.not_empty]; decide), List.mem_map] at h1
      obtain ⟨e, he, rfl⟩ := h1
      exact (limOf_ok hz he).1
  obtain ⟨L, hL⟩ := limL_ok hok
  have hs := limL_start n hn _ _ L hL
  obtain ⟨hl, _⟩ := limCells hn _ _ (Nat.le_refl _) L hL
  rw [List.take_length] at hl
  have hzl : limZ n l = zoneOf n L := by unfold limZ; rw [hf, hL]; rfl
  cases hq : zoneOf n L with
  | err c =>
    left
    rw [hzl, hq]
    unfold zoneOf at hq
    split at hq
    · cases hq
    · split at hq
      · exact hq.symm
      · cases hq
  | ok Y =>
    right
    refine ⟨Y, by rw [hzl, hq], fun e => ?_, ?_⟩
    · subst e
      have := fewN_fewest (hzl.trans hq)
      omega
    · have hfrom := zoneOf_from hn hs (fun j hj => by
        have := hl.low 0 j (by omega) hj (.inr rfl)
        rwa [show 9 * 0 + j = j by omega] at this) hq
      rcases hg with rfl | hz
      · exact inclB_empty rfl zeros_empty
      · have ha : Above n Z L := above_of hz (fun x hx => by
          have h1 := hsub x hx
          unfold fewN at h1
          rw [if_neg (by rw [hz.not_empty]; decide), List.mem_map] at h1
          obtain ⟨e, he, rfl⟩ := h1
          exact ⟨e, he, rfl⟩) hl
        rcases hfrom with ⟨hc, _⟩ | ⟨hy, _, hw⟩
        · exact absurd hc (hz.close_some hs.len ha)
        · refine inclB_all rfl (fun i j hi hj => ?_)
          show cellN Z i j ≤ cellN Y i j
          by_cases e : cellN Y i j = INF
          · rw [e]
            rcases hz.rng i j hi hj with r | r
            · rw [r]; exact Int.le_refl _
            · unfold INF; omega
          · exact ((hw i j hi hj e).ge hz ha).2.2.2
end Go.Proofs.Ytapfihlgemejiaa
