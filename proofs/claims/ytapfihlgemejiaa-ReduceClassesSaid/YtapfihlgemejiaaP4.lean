/- Plain: the few bounds of a zone are no more than any bounds that make it. -/
import Derived.Test.YtapfihlgemejiaaP3
namespace Go.Proofs.Ytapfihlgemejiaa

/-- Where a limit stands in the matrix, and that it binds. -/
def LimAt (x : Lim) (p q : Nat) (c : Int) : Prop := x.i = p ∧ x.j = q ∧ x.b ≠ INF ∧ x.b = c
/-- What the limits leave in the matrix. -/
structure LimCells (n : Nat) (l : List Lim) (L : List Int) : Prop where
  src : ∀ p q, p ≤ n → q ≤ n → gt L (9 * p + q) ≠ NONE → (∃ x, x ∈ l ∧ LimAt x p q (gt L (9 * p + q))) ∨ ((p = q ∨ p = 0) ∧ gt L (9 * p + q) = 1)
  le : ∀ x, x ∈ l → x.b ≠ INF → ∀ p q : Nat, x.i = p → x.j = q → p ≤ n → q ≤ n → gt L (9 * p + q) ≤ x.b
  low : ∀ p q, p ≤ n → q ≤ n → (p = q ∨ p = 0) → gt L (9 * p + q) ≤ 1
  len : L.length = 81
theorem limCells {n : Nat} (hn : n ≤ 8) (l : List Lim) : ∀ m, m ≤ l.length → ∀ L,
    lpO (fun t L => if limOk n (l.getD t ⟨0, 0, 0⟩) then some (keepL L (l.getD t ⟨0, 0, 0⟩).i.toNat (l.getD t ⟨0, 0, 0⟩).j.toNat (l.getD t ⟨0, 0, 0⟩).b) else none) m (openL n) = some L → LimCells n (l.take m) L ∧ ∀ x, x ∈ l.take m → limOk n x = true := by
  intro m
  induction m with
  | zero =>
    intro _ L h
    cases h
    refine ⟨⟨fun p q hp hq hne => ?_, (fun x hx => by cases hx), fun p q hp hq hpq => ?_, openL_length n⟩, (fun x hx => by cases hx)⟩
    · rw [open_form n hn p q (by omega), if_pos ⟨hp, hq⟩] at hne ⊢
      split at hne
      · rename_i hpq; rw [if_pos hpq]; exact .inr ⟨hpq, rfl⟩
      · exact absurd rfl hne
    · rw [open_form n hn p q (by omega), if_pos ⟨hp, hq⟩, if_pos hpq]; omega
  | succ m ih =>
    intro hm L h
    rw [lpO_succ] at h
    cases hq : lpO (fun t L => if limOk n (l.getD t ⟨0, 0, 0⟩) then some (keepL L (l.getD t ⟨0, 0, 0⟩).i.toNat (l.getD t ⟨0, 0, 0⟩).j.toNat (l.getD t ⟨0, 0, 0⟩).b) else none) m (openL n) with
    | none => rw [hq] at h; cases h
    | some M =>
      rw [hq] at h
      obtain ⟨h1, h2⟩ := ih (by omega) M hq
      have hl : m < l.length := by omega
      have hg : l.getD m ⟨0, 0, 0⟩ = l[m] := by rw [List.getD_eq_getElem?_getD, List.getElem?_eq_getElem hl]; rfl
      simp only [Option.bind_some, hg] at h
      split at h
      · rename_i hok
        cases h
        rw [List.take_succ_eq_append_getElem hl]
        generalize l[m] = x at *
        have hok' := hok
        unfold limOk at hok'
        simp only [Bool.and_eq_true, decide_eq_true_eq] at hok'
        obtain ⟨⟨o1, o2, o3, o4⟩, o5⟩ := hok'
        obtain ⟨i, hi⟩ := Int.eq_ofNat_of_zero_le o1
        obtain ⟨j, hj⟩ := Int.eq_ofNat_of_zero_le o3
        have hin : i ≤ n := by omega
        have hjn : j ≤ n := by omega
        have ei : x.i.toNat = i := by omega
        have ej : x.j.toNat = j := by omega
        rw [ei, ej]
        have hcell : ∀ p q, p ≤ n → q ≤ n → gt (keepL M i j x.b) (9 * p + q) = if p = i ∧ q = j ∧ x.b ≠ INF then mn (gt M (9 * p + q)) x.b else gt M (9 * p + q) := fun p q hp hq => by
          unfold keepL
          by_cases hb : x.b = INF
          · rw [if_pos hb, if_neg (fun e => e.2.2 hb)]
          · rw [if_neg hb, gt_st_cell _ _ _ _ _ _ h1.len (by omega) (by omega) (by omega)]
            by_cases e : p = i ∧ q = j
            · rw [if_pos e, if_pos ⟨e.1, e.2, hb⟩, e.1, e.2]
            · rw [if_neg e, if_neg (fun h => e ⟨h.1, h.2.1⟩)]
        have hdown : ∀ p q, p ≤ n → q ≤ n → gt (keepL M i j x.b) (9 * p + q) ≤ gt M (9 * p + q) := fun p q hp hq => by
          rw [hcell p q hp hq]
          split
          · exact mn_le _ _
          · exact Int.le_refl _
        refine ⟨⟨fun p q hp hq hne => ?_, fun y hy hb p q e1 e2 hp hq => ?_, fun p q hp hq hpq => Int.le_trans (hdown p q hp hq) (h1.low p q hp hq hpq), by rw [keepL_length, h1.len]⟩, fun y hy => ?_⟩
        · rw [hcell p q hp hq] at hne ⊢
          split at hne
          · rename_i e
            rw [if_pos e]
            rcases mn_cases (gt M (9 * p + q)) x.b with e2 | e2
            · rw [e2] at hne ⊢
              rcases h1.src p q hp hq hne with ⟨y, hy, hy2⟩ | hy
              · exact .inl ⟨y, List.mem_append_left _ hy, hy2⟩
              · exact .inr hy
            · rw [e2]
              exact .inl ⟨x, by simp, by rw [hi, e.1], by rw [hj, e.2.1], e.2.2, rfl⟩
          · rename_i e
            rw [if_neg e]
            rcases h1.src p q hp hq hne with ⟨y, hy, hy2⟩ | hy
            · exact .inl ⟨y, List.mem_append_left _ hy, hy2⟩
            · exact .inr hy
        · rcases List.mem_append.1 hy with hy | hy
          · exact Int.le_trans (hdown p q hp hq) (h1.le y hy hb p q e1 e2 hp hq)
          · have : y = x := by simpa using hy
            subst this
            have ep : p = i := by omega
            have eq : q = j := by omega
            rw [hcell p q hp hq, if_pos ⟨ep, eq, hb⟩]
            exact mn_le' _ _
        · rcases List.mem_append.1 hy with hy | hy
          · exact h2 y hy
          · have : y = x := by simpa using hy
            subst this; exact hok
      · cases h
/-- Limits that are taken: what comes of them. -/
theorem limZ_ok {n : Nat} {l : List Lim} {Z : List Int} (h : limZ n l = .ok Z) : n ≤ 8 ∧ (∀ x, x ∈ l → limOk n x = true) ∧ ∃ L, limL n l = some L ∧ zoneOf n L = .ok Z ∧ LimCells n l L ∧ Start n L ∧ ZFrom n L Z := by
  unfold limZ at h
  split at h
  · cases h
  · rename_i hf
    have hn : n ≤ 8 := by
      have : fewB n = true := by simpa using hf
      unfold fewB at this
      simp at this; omega
    cases hq : limL n l with
    | none => rw [hq] at h; cases h
    | some L =>
      rw [hq] at h
      have h : zoneOf n L = .ok Z := h
      have hs := limL_start n hn l l.length L hq
      obtain ⟨h1, h2⟩ := limCells hn l l.length (Nat.le_refl _) L hq
      rw [List.take_length] at h1 h2
      refine ⟨hn, h2, L, rfl, h, h1, hs, zoneOf_from hn hs (fun j hj => ?_) h⟩
      have := h1.low 0 j (by omega) hj (.inr rfl)
      rwa [show 9 * 0 + j = j by omega] at this

section
variable {n : Nat} {Z L : List Int} {l : List Lim}
/-- A bound from a head to that of another class: some limit goes from the one class to the other. -/
theorem ZCl.cross (hz : ZCl n Z) (hl : LimCells n l L) (hle : ∀ p q, p ≤ n → q ≤ n → gt L (9 * p + q) ≠ NONE → cellN Z p q ≠ INF ∧ cellN Z p q ≤ gt L (9 * p + q)) (hw : ∀ p q, p ≤ n → q ≤ n → cellN Z p q ≠ INF → Wk n L p q (cellN Z p q))
    {c d : List Nat} (hc : c ∈ classesL Z n) (hdm : d ∈ classesL Z n) (hne : hd c ≠ hd d) (hnd : neededB Z (hd c) d (classesL Z n) = true) :
    ∃ x, x ∈ l ∧ ∃ p q : Nat, x.i = p ∧ x.j = q ∧ p ≤ n ∧ q ≤ n ∧ headOf Z p = hd c ∧ headOf Z q = hd d := by
  obtain ⟨⟨c1, c2⟩, cm, _, _, _⟩ := hz.class_of hc
  obtain ⟨⟨d1, d2⟩, dm, _, _, _⟩ := hz.class_of hdm
  unfold neededB at hnd
  simp only [Bool.and_eq_true, decide_eq_true_eq, Bool.not_eq_true', Bool.and_eq_false_iff, decide_eq_false_iff_not] at hnd
  obtain ⟨⟨n1, n2⟩, n3⟩ := hnd
  have hfin : cellN Z (hd c) (hd d) ≠ INF := n1
  obtain ⟨x, y, s1, s2, s3, s4, s5, s6, s7, s8, s9, t1, t2⟩ := leave_tight hz hle (fun u => headOf Z u = hd c) (hw _ _ c1 d1 hfin) c2 (by rw [d2]; exact fun e => hne e.symm)
  have hrij := (hz.rng _ _ c1 d1).resolve_left hfin
  -- where it leads to
  have hy : headOf Z y = hd d := by
    by_cases e : headOf Z y = hd d
    · exact e
    · exfalso
      obtain ⟨ck, k1, k2, k3⟩ := hz.class_of_clock s4
      have hk := (hz.class_of k1).1
      have ty : Tie Z y (hd ck) := by rw [k2]; exact (hz.head_spec s4).2.1
      have r := hz.shiftR hk.1 s4 c1 ty.symm
      have r2 := hz.shiftL hk.1 s4 d1 ty.symm
      have f1 : cellN Z (hd c) (hd ck) ≠ INF := fun e => s9 (r.1.1 e)
      have f2 : cellN Z (hd ck) (hd d) ≠ INF := fun e => s8 (r2.1.1 e)
      have e1 := r.2 s9
      have e2 := r2.2 s8
      have e3 : plus2 (cellN Z (hd c) (hd ck)) (cellN Z (hd ck) (hd d)) = cellN Z (hd c) (hd d) := by
        rw [e1, e2, plus2_assoc, ← plus2_assoc (cellN Z y (hd ck)), ty.2.2, one_plus2, t1]
      have := List.any_eq_false.1 n3 ck k1
      apply this
      simp only [Bool.and_eq_true, decide_eq_true_eq]
      refine ⟨⟨by rw [k2]; exact s2, by rw [k2]; exact e⟩, ?_⟩
      exact (hz.way_le c1 hk.1 d1 hrij.1 hrij.2).2 ⟨f1, f2, by omega⟩
  rcases hl.src x y s3 s4 s5 with ⟨m, hm, m1, m2, m3, m4⟩ | ⟨hf, e1⟩
  · exact ⟨m, hm, x, y, m1, m2, s3, s4, s1, hy⟩
  · exfalso
    have hx0 : x = 0 := by
      rcases hf with e | e
      · subst e; exact absurd s1 s2
      · exact e
    subst hx0
    have h0 : hd c = 0 := by
      have := (hz.head_spec (Nat.zero_le n)).1
      omega
    rw [h0] at t2
    rw [hz.diag 0 (by omega), e1, one_plus2, one_plus2] at t2
    have ty : Tie Z y (hd d) := by rw [← hy]; exact (hz.head_spec s4).2.1
    have ho := ty.odd
    rw [h0] at t1
    rw [plus2_shift _ ho.1] at t1
    have e2 : cellN Z 0 y = 1 := by omega
    rcases n2 with n2 | n2
    · exact n2 h0
    · have := List.any_eq_false.1 n2 y ((dm y).2 ⟨s4, hy⟩)
      simp [e2] at this
/-- A bound of a class's round: some limit goes out of its first clock, within the class. -/
theorem ZCl.inside (hz : ZCl n Z) (hl : LimCells n l L) (hle : ∀ p q, p ≤ n → q ≤ n → gt L (9 * p + q) ≠ NONE → cellN Z p q ≠ INF ∧ cellN Z p q ≤ gt L (9 * p + q)) (hw : ∀ p q, p ≤ n → q ≤ n → cellN Z p q ≠ INF → Wk n L p q (cellN Z p q))
    {c : List Nat} (hc : c ∈ classesL Z n) {x y0 : Nat} (hx : x ∈ c) (hy0 : y0 ∈ c) (hne : x ≠ y0) (h0 : x ≠ 0 ∨ ∀ k, k ∈ c → k ≠ 0 → cellN Z 0 k ≠ 1) :
    ∃ m, m ∈ l ∧ ∃ q : Nat, m.i = x ∧ m.j = q ∧ q ≤ n ∧ headOf Z q = headOf Z x := by
  obtain ⟨_, cm, _, _, _⟩ := hz.class_of hc
  obtain ⟨x1, x2⟩ := (cm x).1 hx
  obtain ⟨y1, y2⟩ := (cm y0).1 hy0
  have txy : Tie Z x y0 := (hz.head_iff x1 y1).1 (x2.trans y2.symm)
  obtain ⟨x', k, s1, s2, s3, s4, s5, s6, s7, s8, s9, t1, t2⟩ := leave_tight hz hle (fun u => u = x) (hw _ _ x1 y1 txy.1) rfl (fun e => hne e.symm)
  have s1 : x' = x := s1
  subst s1
  have tk : Tie Z x' k := by
    obtain ⟨f1, u1⟩ := hz.tri k y0 x' s4 y1 x1 s8 txy.2.1
    refine ⟨s9, f1, ?_⟩
    have u2 := plus2_mono (Int.le_refl (cellN Z x' k)) u1
    rw [← plus2_assoc, t1, txy.2.2] at u2
    have u3 := (hz.tri x' k x' x1 s4 x1 s9 f1).2
    rw [hz.diag x' x1] at u3
    omega
  have hk : headOf Z k = headOf Z x' := ((hz.head_iff x1 s4).2 tk).symm
  rcases hl.src x' k s3 s4 s5 with ⟨m, hm, m1, m2, m3, m4⟩ | ⟨hf, e1⟩
  · exact ⟨m, hm, k, m1, m2, s4, hk⟩
  · exfalso
    have hx0 : x' = 0 := by
      rcases hf with e | e
      · exact absurd e.symm s2
      · exact e
    subst hx0
    rw [hz.diag 0 (by omega), e1, one_plus2, one_plus2] at t2
    have ty : Tie Z k y0 := hz.tie_trans s4 x1 y1 tk.symm txy
    have ho := ty.odd
    rw [plus2_shift _ ho.1] at t1
    have e2 : cellN Z 0 k = 1 := by omega
    rcases h0 with h0 | h0
    · exact h0 rfl
    · exact h0 k ((cm k).2 ⟨s4, hk.trans x2⟩) s2 e2
/-- The key of a bound: from which class (or clock) to which. -/
def keyOf (Z : List Int) (p q : Nat) : Nat × Nat := if headOf Z p = headOf Z q then (p, p) else (headOf Z p, headOf Z q)
theorem mem_fewL {e : Nat × Nat} : e ∈ fewL Z n ↔ (∃ c, c ∈ classesL Z n ∧ e ∈ roundPuts Z (roundL Z c)) ∨
    ∃ c d, c ∈ classesL Z n ∧ d ∈ classesL Z n ∧ hd c ≠ hd d ∧ neededB Z (hd c) d (classesL Z n) = true ∧ e = (hd c, hd d) := by
  unfold fewL
  rw [List.mem_append, List.mem_flatMap, List.mem_flatMap]
  constructor
  · rintro (⟨c, hc, he⟩ | ⟨c, hc, he⟩)
    · exact .inl ⟨c, hc, he⟩
    · rw [List.mem_map] at he
      obtain ⟨d, hd1, rfl⟩ := he
      rw [List.mem_filter] at hd1
      simp only [Bool.and_eq_true, decide_eq_true_eq] at hd1
      exact .inr ⟨c, d, hc, hd1.1, hd1.2.1, hd1.2.2, rfl⟩
  · rintro (⟨c, hc, he⟩ | ⟨c, d, hc, hd1, h1, h2, rfl⟩)
    · exact .inl ⟨c, hc, he⟩
    · refine .inr ⟨c, hc, ?_⟩
      rw [List.mem_map]
      refine ⟨d, ?_, rfl⟩
      rw [List.mem_filter]
      simp only [Bool.and_eq_true, decide_eq_true_eq]
      exact ⟨hd1, h1, h2⟩
theorem ZCl.few_key (hz : ZCl n Z) {e : Nat × Nat} : ((∃ c, c ∈ classesL Z n ∧ e ∈ roundPuts Z (roundL Z c)) → e.1 ≤ n ∧ e.2 ≤ n ∧ headOf Z e.1 = headOf Z e.2) := by
  rintro ⟨c, hc, he⟩
  obtain ⟨m1, m2, _, _⟩ := hz.rp_spec hc he
  obtain ⟨_, cm, _⟩ := hz.class_of hc
  obtain ⟨a1, a2⟩ := (cm _).1 m1
  obtain ⟨b1, b2⟩ := (cm _).1 m2
  exact ⟨a1, b1, a2.trans b2.symm⟩
theorem ZCl.few_nodup (hz : ZCl n Z) : ((fewL Z n).map fun e => keyOf Z e.1 e.2).Nodup := by
  unfold fewL
  rw [List.map_append, List.nodup_append]
  have hcl := hz.classes_nodup
  refine ⟨?_, ?_, ?_⟩
  · rw [List.map_flatMap]
    unfold List.Nodup
    rw [List.pairwise_flatMap]
    refine ⟨fun c hc => ?_, ?_⟩
    · have e1 : (roundPuts Z (roundL Z c)).map (fun e => keyOf Z e.1 e.2) = ((roundPuts Z (roundL Z c)).map Prod.fst).map fun x => (x, x) := by
        rw [List.map_map]
        refine List.map_congr_left (fun e he => ?_)
        obtain ⟨_, _, h3⟩ := hz.few_key ⟨c, hc, he⟩
        show keyOf Z e.1 e.2 = (e.1, e.1)
        unfold keyOf
        rw [if_pos h3]
      rw [e1]
      have h1 := rp_nodup (Z := Z) (roundL_nodup (Z := Z) (hz.class_of hc).2.2.2.1)
      rw [List.pairwise_map]
      exact h1.imp (fun hne e => hne (by simpa using e))
    · refine hcl.imp_of_mem (fun {c d} hc hd1 hne => ?_)
      intro x hx y hy
      rw [List.mem_map] at hx hy
      obtain ⟨e, he, rfl⟩ := hx
      obtain ⟨f, hf, rfl⟩ := hy
      intro hxy
      obtain ⟨_, _, h3⟩ := hz.few_key ⟨c, hc, he⟩
      obtain ⟨_, _, g3⟩ := hz.few_key ⟨d, hd1, hf⟩
      have hxy : keyOf Z e.1 e.2 = keyOf Z f.1 f.2 := hxy
      unfold keyOf at hxy
      rw [if_pos h3, if_pos g3] at hxy
      have hef : e.1 = f.1 := by simpa using hxy
      obtain ⟨m1, _⟩ := hz.rp_spec hc he
      obtain ⟨m2, _⟩ := hz.rp_spec hd1 hf
      have a := ((hz.class_of hc).2.1 _).1 m1
      have b := ((hz.class_of hd1).2.1 _).1 m2
      rw [hef] at a
      exact hne (a.2.symm.trans b.2)
  · rw [List.map_flatMap]
    unfold List.Nodup
    rw [List.pairwise_flatMap]
    have hk : ∀ c d, c ∈ classesL Z n → d ∈ classesL Z n → hd c ≠ hd d → keyOf Z (hd c) (hd d) = (hd c, hd d) := fun c d hc hd1 hne => by
      have a := (hz.class_of hc).1.2
      have b := (hz.class_of hd1).1.2
      unfold keyOf
      rw [a, b, if_neg hne]
    refine ⟨fun c hc => ?_, ?_⟩
    · rw [List.map_map, List.pairwise_map]
      refine (hcl.filter _).imp_of_mem (fun {d f} hd1 hf hne => ?_)
      rw [List.mem_filter] at hd1 hf
      simp only [Bool.and_eq_true, decide_eq_true_eq] at hd1 hf
      show keyOf Z (hd c) (hd d) ≠ keyOf Z (hd c) (hd f)
      rw [hk c d hc hd1.1 hd1.2.1, hk c f hc hf.1 hf.2.1]
      intro e
      exact hne (by simpa using e)
    · refine hcl.imp_of_mem (fun {c c'} hc hc' hne => ?_)
      intro x hx y hy
      rw [List.map_map, List.mem_map] at hx hy
      obtain ⟨d, hd1, rfl⟩ := hx
      obtain ⟨f, hf, rfl⟩ := hy
      rw [List.mem_filter] at hd1 hf
      simp only [Bool.and_eq_true, decide_eq_true_eq] at hd1 hf
      show keyOf Z (hd c) (hd d) ≠ keyOf Z (hd c') (hd f)
      rw [hk c d hc hd1.1 hd1.2.1, hk c' f hc' hf.1 hf.2.1]
      intro e
      have : hd c = hd c' := by
        have := congrArg Prod.fst e
        exact this
      exact hne this
  · intro x hx y hy e
    subst e
    rw [List.mem_map] at hx hy
    obtain ⟨e, he, rfl⟩ := hx
    obtain ⟨f, hf, hy⟩ := hy
    rw [List.mem_flatMap] at he hf
    obtain ⟨_, _, h3⟩ := hz.few_key he
    obtain ⟨c, hc, hf⟩ := hf
    rw [List.mem_map] at hf
    obtain ⟨d, hd1, rfl⟩ := hf
    rw [List.mem_filter] at hd1
    simp only [Bool.and_eq_true, decide_eq_true_eq] at hd1
    have a := (hz.class_of hc).1.2
    have b := (hz.class_of hd1.1).1.2
    unfold keyOf at hy
    rw [if_pos h3] at hy
    simp only [a, b, if_neg hd1.2.1] at hy
    have h1 := congrArg Prod.fst hy
    have h2 := congrArg Prod.snd hy
    exact hd1.2.1 (h1.trans h2.symm)
theorem length_le_of_subset {α : Type} : ∀ {a b : List α}, a.Nodup → (∀ x ∈ a, x ∈ b) → a.length ≤ b.length
  | [], _, _, _ => Nat.zero_le _
  | x :: a, b, hn, hs => by
    obtain ⟨h1, h2⟩ := List.nodup_cons.1 hn
    obtain ⟨p, q, rfl⟩ := List.append_of_mem (hs x (List.mem_cons_self))
    have := length_le_of_subset (a := a) (b := p ++ q) h2 (fun y hy => by
      have h3 := hs y (List.mem_cons_of_mem _ hy)
      rw [List.mem_append, List.mem_cons] at h3
      rw [List.mem_append]
      rcases h3 with h3 | h3 | h3
      · exact .inl h3
      · subst h3; exact absurd hy h1
      · exact .inr h3)
    simp only [List.length_cons, List.length_append] at this ⊢
    omega
/-- No limits that make the zone are fewer. -/
theorem ZCl.fewest (hz : ZCl n Z) (hl : LimCells n l L) (hle : ∀ p q, p ≤ n → q ≤ n → gt L (9 * p + q) ≠ NONE → cellN Z p q ≠ INF ∧ cellN Z p q ≤ gt L (9 * p + q)) (hw : ∀ p q, p ≤ n → q ≤ n → cellN Z p q ≠ INF → Wk n L p q (cellN Z p q)) :
    (fewL Z n).length ≤ l.length := by
  have h1 := length_le_of_subset (b := l.map fun x => keyOf Z x.i.toNat x.j.toNat) hz.few_nodup (fun k hk => by
    rw [List.mem_map] at hk
    obtain ⟨e, he, rfl⟩ := hk
    rw [List.mem_map]
    rcases mem_fewL.1 he with ⟨c, hc, he⟩ | ⟨c, d, hc, hd1, hne, hnd, rfl⟩
    · obtain ⟨m1, m2, m3, m4⟩ := hz.rp_spec hc he
      obtain ⟨_, _, h3⟩ := hz.few_key ⟨c, hc, he⟩
      obtain ⟨m, hm, q, q1, q2, q3, q4⟩ := hz.inside hl hle hw hc m1 m2 m3 m4
      refine ⟨m, hm, ?_⟩
      rw [q1, q2]
      show keyOf Z e.1 q = keyOf Z e.1 e.2
      unfold keyOf
      rw [if_pos h3, if_pos q4.symm]
    · obtain ⟨m, hm, p, q, q1, q2, q3, q4, q5, q6⟩ := hz.cross hl hle hw hc hd1 hne hnd
      refine ⟨m, hm, ?_⟩
      rw [q1, q2]
      show keyOf Z p q = keyOf Z (hd c) (hd d)
      unfold keyOf
      rw [q5, q6, (hz.class_of hc).1.2, (hz.class_of hd1).1.2, if_neg hne, if_neg hne])
  simpa using h1
theorem closeL_universe (n : Nat) (hn : n ≤ 8) : closeL n (openL n) ≠ none := by
  rcases (show n = 0 ∨ n = 1 ∨ n = 2 ∨ n = 3 ∨ n = 4 ∨ n = 5 ∨ n = 6 ∨ n = 7 ∨ n = 8 by omega) with rfl | rfl | rfl | rfl | rfl | rfl | rfl | rfl | rfl <;> decide +kernel
end
/-- The few bounds of a zone. -/
def fewN (z : Zn) : List Lim := if emptyB z.Z = true then [⟨0, 0, 0⟩] else (fewL z.Z z.n).map (limOf z.Z)
theorem zeros_empty : emptyB zeros = true := by decide
theorem ZCl.not_empty {n : Nat} {Z : List Int} (h : ZCl n Z) : emptyB Z = false := by
  have := h.diag 0 (Nat.zero_le n)
  unfold emptyB
  unfold cellN at this
  rw [show 9 * 0 + 0 = 0 by rfl] at this
  rw [this]; decide
theorem ZFrom.len {n : Nat} {L Z : List Int} (h : ZFrom n L Z) : Z.length = 81 := by
  rcases h with ⟨_, rfl⟩ | ⟨h, _⟩
  · exact zeros_length
  · exact h.len
theorem fewN_fewest {n : Nat} {l : List Lim} {Z : List Int} (h : limZ n l = .ok Z) : (fewN ⟨n, Z⟩).length ≤ l.length := by
  obtain ⟨hn, _, L, hL, hzo, hl, _, hf⟩ := limZ_ok h
  unfold fewN
  rcases hf with ⟨hc, rfl⟩ | ⟨hz, hle, hw⟩
  · rw [if_pos zeros_empty]
    cases l with
    | nil =>
      have e : limL n [] = some (openL n) := rfl
      rw [e] at hL
      cases hL
      exact absurd hc (closeL_universe n hn)
    | cons x l => simp
  · rw [if_neg (by rw [hz.not_empty]; decide), List.length_map]
    exact hz.fewest hl hle hw
end Go.Proofs.Ytapfihlgemejiaa
