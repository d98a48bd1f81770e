/- Plain: the round of a class; a walk that leaves a set; the few bounds are the fewest. -/
import Derived.Test.YtapfihlgemejiaaP2
import Derived.Test.YtapfihlgemejiaaR13
namespace Go.Proofs.Ytapfihlgemejiaa

section
variable {n : Nat} {Z L : List Int}
theorem rank_cases (x : Nat) : rankI Z x = 0 ∨ rankI Z x = 1 ∨ rankI Z x = 2 := by
  unfold rankI; split
  · exact .inl rfl
  · split
    · exact .inr (.inl rfl)
    · exact .inr (.inr rfl)
theorem mem_roundL_iff {c : List Nat} {x : Nat} : x ∈ roundL Z c ↔ x ∈ c := by
  unfold roundL
  split
  · simp only [List.mem_append, List.mem_filter, decide_eq_true_eq]
    have := rank_cases (Z := Z) x
    constructor
    · rintro ((h | h) | h) <;> exact h.1
    · intro h
      rcases this with r | r | r
      · exact .inl (.inl ⟨h, r⟩)
      · exact .inl (.inr ⟨h, r⟩)
      · exact .inr ⟨h, r⟩
  · rfl
theorem roundL_nodup {c : List Nat} (h : c.Nodup) : (roundL Z c).Nodup := by
  unfold roundL
  split
  · rw [List.nodup_append, List.nodup_append]
    refine ⟨⟨h.sublist List.filter_sublist, h.sublist List.filter_sublist, ?_⟩, h.sublist List.filter_sublist, ?_⟩
    · intro a ha b hb e
      simp only [List.mem_filter, decide_eq_true_eq] at ha hb
      subst e; omega
    · intro a ha b hb e
      simp only [List.mem_append, List.mem_filter, decide_eq_true_eq] at ha hb
      subst e
      rcases ha with ha | ha <;> omega
  · exact h
theorem rp_mem {l : List Nat} {e : Nat × Nat} (h : e ∈ roundPuts Z l) : ∃ t, t < l.length ∧ 1 < l.length ∧ e.1 = l.getD t 0 ∧ e.2 = l.getD ((t + 1) % l.length) 0 ∧ (e.1 ≠ 0 ∨ cellN Z 0 e.2 ≠ 1) := by
  unfold roundPuts at h
  rw [List.mem_filterMap] at h
  obtain ⟨t, ht, h2⟩ := h
  split at h2
  · rename_i hc
    simp only [Option.some.injEq] at h2
    subst h2
    exact ⟨t, List.mem_range.1 ht, hc.1, rfl, rfl, hc.2⟩
  · cases h2
theorem rp_fst (l : List Nat) : ∀ t, t ≤ l.length → List.Sublist ((rpTo Z l t).map Prod.fst) (l.take t)
  | 0, _ => by simp [rpTo]
  | t + 1, h => by
    have ih := rp_fst l t (by omega)
    rw [List.take_succ_eq_append_getElem (by omega : t < l.length)]
    by_cases hc : 1 < l.length ∧ (l.getD t 0 ≠ 0 ∨ cellN Z 0 (l.getD ((t + 1) % l.length) 0) ≠ 1)
    · rw [rpTo_yes hc, List.map_append]
      refine ih.append ?_
      have e : l.getD t 0 = l[t] := by rw [List.getD_eq_getElem?_getD, List.getElem?_eq_getElem (by omega)]; rfl
      show List.Sublist [l.getD t 0] [l[t]]
      rw [e]
      exact List.Sublist.refl _
    · rw [rpTo_no hc]
      exact ih.trans (List.sublist_append_left _ _)
theorem rp_nodup {l : List Nat} (h : l.Nodup) : ((roundPuts Z l).map Prod.fst).Nodup := by
  rw [← rpTo_all]
  have := rp_fst (Z := Z) l l.length (Nat.le_refl _)
  rw [List.take_length] at this
  exact h.sublist this
theorem getD_mem {l : List Nat} {t : Nat} (h : t < l.length) : l.getD t 0 ∈ l := by
  rw [List.getD_eq_getElem?_getD, List.getElem?_eq_getElem h]; exact List.getElem_mem h
theorem getD_inj {l : List Nat} (h : l.Nodup) {s t : Nat} (hs : s < l.length) (ht : t < l.length) (e : l.getD s 0 = l.getD t 0) : s = t := by
  rw [List.getD_eq_getElem?_getD, List.getD_eq_getElem?_getD, List.getElem?_eq_getElem hs, List.getElem?_eq_getElem ht] at e
  exact (List.getElem_inj h).1 (by simpa using e)
theorem next_ne {t m : Nat} (ht : t < m) (h1 : 1 < m) : (t + 1) % m ≠ t ∧ (t + 1) % m < m := by
  refine ⟨?_, Nat.mod_lt _ (by omega)⟩
  by_cases e : t + 1 = m
  · rw [e, Nat.mod_self]; omega
  · rw [Nat.mod_eq_of_lt (by omega)]; omega
theorem filter_zero : ∀ {c : List Nat}, 0 ∈ c → c.Nodup → (c.filter fun x => x == 0) = [0]
  | a :: c, h, hn => by
    obtain ⟨h1, h2⟩ := List.nodup_cons.1 hn
    by_cases h0 : a = 0
    · subst h0
      have : (c.filter fun x => x == 0) = [] := by
        rw [List.filter_eq_nil_iff]
        intro x hx e
        have : x = 0 := by simpa using e
        subst this
        exact h1 hx
      simp [this]
    · have hc : 0 ∈ c := by
        rcases List.mem_cons.1 h with e | e
        · exact absurd e.symm h0
        · exact e
      have := filter_zero hc h2
      simp [h0, this]
/-- What a bound of a class's round says. -/
theorem ZCl.rp_spec (h : ZCl n Z) {c : List Nat} (hc : c ∈ classesL Z n) {e : Nat × Nat} (he : e ∈ roundPuts Z (roundL Z c)) :
    e.1 ∈ c ∧ e.2 ∈ c ∧ e.1 ≠ e.2 ∧ (e.1 ≠ 0 ∨ ∀ k, k ∈ c → k ≠ 0 → cellN Z 0 k ≠ 1) := by
  obtain ⟨hh, hm, hs, hnd, hhd⟩ := h.class_of hc
  obtain ⟨t, ht, h1, e1, e2, h3⟩ := rp_mem he
  have hln := roundL_nodup (Z := Z) hnd
  obtain ⟨n1, n2⟩ := next_ne ht h1
  have m1 : e.1 ∈ c := mem_roundL_iff.1 (e1 ▸ getD_mem ht)
  have m2 : e.2 ∈ c := mem_roundL_iff.1 (e2 ▸ getD_mem n2)
  refine ⟨m1, m2, fun e => n1 (getD_inj hln n2 ht (by rw [← e1, ← e2, e])), ?_⟩
  by_cases hx : e.1 = 0
  · right
    intro k hk hk0 hk1
    have h0 : cellN Z 0 e.2 ≠ 1 := h3.resolve_left (fun h => h hx)
    apply h0
    rw [hx] at m1
    have ties : ∀ y, y ∈ c → Tie Z 0 y := fun y hy => by
      have a := (hm 0).1 m1
      have b := (hm y).1 hy
      exact (h.head_iff (by omega) b.1).1 (a.2.trans b.2.symm)
    have hhd0 : c.getD 0 0 = 0 := by
      have : hd c = 0 := by
        have := (hm 0).1 m1
        have h2 := (h.head_spec (Nat.zero_le n)).1
        omega
      exact this
    have rk : rankI Z k = 1 := by
      have := (ties k hk).odd
      unfold rankI
      rw [if_neg hk0, if_pos ⟨by omega, by omega⟩]
    have hf0 : (c.filter fun x => rankI Z x = 0) = [0] := by
      have e1 : (c.filter fun x => decide (rankI Z x = 0)) = c.filter fun x => x == 0 := by
        refine List.filter_congr (fun x _ => ?_)
        unfold rankI
        by_cases h0 : x = 0
        · simp [h0]
        · rw [if_neg h0]; split <;> simp [h0]
      rw [e1]
      exact filter_zero m1 hnd
    have hr : roundL Z c = 0 :: ((c.filter fun x => rankI Z x = 1) ++ (c.filter fun x => rankI Z x = 2)) := by
      unfold roundL
      rw [if_pos hhd0, hf0]
      rfl
    have ht0 : t = 0 := by
      refine getD_inj hln ht (by omega) ?_
      rw [← e1, hx, hr]; rfl
    subst ht0
    rw [Nat.mod_eq_of_lt h1, hr] at e2
    have hk2 : k ∈ c.filter fun x => rankI Z x = 1 := by simp [hk, rk]
    have hy : e.2 ∈ c.filter fun x => rankI Z x = 1 := by
      cases hq : (c.filter fun x => decide (rankI Z x = 1)) with
      | nil => rw [hq] at hk2; cases hk2
      | cons a r =>
        rw [hq] at e2
        have : e.2 = a := e2
        rw [this]; exact List.mem_cons_self
    simp only [List.mem_filter, decide_eq_true_eq] at hy
    have hr1 := hy.2
    unfold rankI at hr1
    split at hr1
    · omega
    · split at hr1
      · rename_i hle
        have := (ties e.2 m2).odd
        omega
      · omega
  · exact .inl hx

/-- A walk is no less than the zone's cell. -/
theorem Wk.ge (hz : ZCl n Z) (hle : ∀ p q, p ≤ n → q ≤ n → gt L (9 * p + q) ≠ NONE → cellN Z p q ≠ INF ∧ cellN Z p q ≤ gt L (9 * p + q)) {p q : Nat} {s : Int} (h : Wk n L p q s) :
    p ≤ n ∧ q ≤ n ∧ cellN Z p q ≠ INF ∧ cellN Z p q ≤ s := by
  induction h with
  | one hp hq e hn => subst e; exact ⟨hp, hq, hle _ _ hp hq hn⟩
  | cons hp hk e hn _ ih =>
    subst e
    obtain ⟨i1, i2, i3, i4⟩ := ih
    obtain ⟨a1, a2⟩ := hle _ _ hp hk hn
    obtain ⟨t1, t2⟩ := hz.tri _ _ _ hp hk i2 a1 i3
    exact ⟨hp, i2, t1, Int.le_trans t2 (plus2_mono a2 i4)⟩
/-- A walk that leaves a set has an edge by which it leaves it. -/
theorem Wk.leave (hz : ZCl n Z) (hle : ∀ p q, p ≤ n → q ≤ n → gt L (9 * p + q) ≠ NONE → cellN Z p q ≠ INF ∧ cellN Z p q ≤ gt L (9 * p + q)) (S : Nat → Prop) {p q : Nat} {s : Int} (h : Wk n L p q s) (hp : S p) (hq : ¬ S q) :
    ∃ x y a b, S x ∧ ¬ S y ∧ x ≤ n ∧ y ≤ n ∧ gt L (9 * x + y) ≠ NONE ∧ s = plus2 a (plus2 (gt L (9 * x + y)) b) ∧ cellN Z p x ≠ INF ∧ cellN Z p x ≤ a ∧ cellN Z y q ≠ INF ∧ cellN Z y q ≤ b := by
  induction h with
  | @one p q c hpn hqn e hn =>
    subst e
    exact ⟨p, q, 1, 1, hp, hq, hpn, hqn, hn, by rw [plus2_one, one_plus2], by rw [hz.diag p hpn]; decide, by rw [hz.diag p hpn]; omega, by rw [hz.diag q hqn]; decide, by rw [hz.diag q hqn]; omega⟩
  | @cons p k q a b hpn hk e hn hw ih =>
    subst e
    by_cases hS : S k
    · obtain ⟨x, y, a', b', s1, s2, s3, s4, s5, s6, s7, s8, s9, s10⟩ := ih hS hq
      obtain ⟨l1, l2⟩ := hle p k hpn hk hn
      obtain ⟨t1, t2⟩ := hz.tri p k x hpn hk s3 l1 s7
      exact ⟨x, y, plus2 (gt L (9 * p + k)) a', b', s1, s2, s3, s4, s5, by rw [s6, plus2_assoc], t1, Int.le_trans t2 (plus2_mono l2 s8), s9, s10⟩
    · obtain ⟨_, g2, g3, g4⟩ := hw.ge hz hle
      exact ⟨p, k, 1, b, hp, hS, hpn, hk, hn, by rw [one_plus2], by rw [hz.diag p hpn]; decide, by rw [hz.diag p hpn]; omega, g3, g4⟩
/-- The same, where the walk's sum is the zone's cell: the way by that edge is as short. -/
theorem leave_tight (hz : ZCl n Z) (hle : ∀ p q, p ≤ n → q ≤ n → gt L (9 * p + q) ≠ NONE → cellN Z p q ≠ INF ∧ cellN Z p q ≤ gt L (9 * p + q)) (S : Nat → Prop) {p q : Nat} (h : Wk n L p q (cellN Z p q)) (hp : S p) (hq : ¬ S q) :
    ∃ x y, S x ∧ ¬ S y ∧ x ≤ n ∧ y ≤ n ∧ gt L (9 * x + y) ≠ NONE ∧ cellN Z p x ≠ INF ∧ cellN Z x y ≠ INF ∧ cellN Z y q ≠ INF ∧ cellN Z p y ≠ INF ∧
      plus2 (cellN Z p y) (cellN Z y q) = cellN Z p q ∧ plus2 (cellN Z p x) (plus2 (gt L (9 * x + y)) (cellN Z y q)) = cellN Z p q := by
  obtain ⟨hpn, hqn, _, _⟩ := h.ge hz hle
  obtain ⟨x, y, a, b, s1, s2, s3, s4, s5, s6, s7, s8, s9, s10⟩ := h.leave hz hle S hp hq
  obtain ⟨l1, l2⟩ := hle x y s3 s4 s5
  obtain ⟨t1, t2⟩ := hz.tri p x y hpn s3 s4 s7 l1
  obtain ⟨_, t4⟩ := hz.tri p y q hpn s4 hqn t1 s9
  have u1 := plus2_mono t2 (Int.le_refl (cellN Z y q))
  have u2 : plus2 (plus2 (cellN Z p x) (cellN Z x y)) (cellN Z y q) ≤ plus2 (cellN Z p x) (plus2 (gt L (9 * x + y)) (cellN Z y q)) := by
    rw [plus2_assoc]; exact plus2_mono (Int.le_refl _) (plus2_mono l2 (Int.le_refl _))
  have u3 := plus2_mono s8 (plus2_mono (Int.le_refl (gt L (9 * x + y))) s10)
  rw [← s6] at u3
  exact ⟨x, y, s1, s2, s3, s4, s5, s7, l1, s9, t1, by omega, by omega⟩
end
end Go.Proofs.Ytapfihlgemejiaa
