/- TopFollows, plain: what the walks make of the cells, in the form in which the plain law takes it; the way as a whole. -/
import Derived.Test.YtapfihlgemejiaaY9
import Derived.Test.YtapfihlgemejiaaY7
namespace Go.Proofs.Ytapfihlgemejiaa

theorem dense_get {n : Nat} (L : List Int) {p q : Nat} (hp : p ≤ n) (hq : q ≤ n) : gt (cellsOf ⟨n, L⟩) (p * (n + 1) + q) = gt L (9 * p + q) := by
  have h := cellsOf_get ⟨n, L⟩ (i := p) (j := q) hp hq
  show (cellsOf ⟨n, L⟩).getD _ 0 = _
  rw [List.getD_eq_getElem?_getD, h]; rfl
theorem fill_form {n : Nat} (hn : n ≤ 8) (cells : List Int) : ∀ m, m ≤ (n + 1) * (n + 1) → (lp (fillC n cells) m zeros).length = 81 ∧ ∀ p q, p ≤ n → q ≤ n → gt (lp (fillC n cells) m zeros) (9 * p + q) = if p * (n + 1) + q < m then gt cells (p * (n + 1) + q) else 0
  | 0, _ => ⟨zeros_length, fun p q _ _ => by rw [if_neg (by omega)]; exact zeros_gt _⟩
  | m + 1, h => by
    obtain ⟨h1, h2⟩ := fill_form hn cells m (Nat.le_of_succ_le h)
    refine ⟨lp_length _ (fun i L => fillC_length _ _ i L) _ _, fun p q hp hq => ?_⟩
    have hlt : m / (n + 1) ≤ n := by
      have : m / (n + 1) < n + 1 := Nat.div_lt_of_lt_mul (Nat.lt_of_lt_of_le (Nat.lt_succ_self m) h)
      omega
    have hmd : m % (n + 1) ≤ n := Nat.le_of_lt_succ (Nat.mod_lt m (Nat.succ_pos n))
    have hpq : p * (n + 1) + q = m ↔ p = m / (n + 1) ∧ q = m % (n + 1) := by
      constructor
      · rintro rfl
        rw [Nat.add_comm, Nat.add_mul_div_right _ _ (Nat.succ_pos n), Nat.div_eq_of_lt (by omega), Nat.add_mul_mod_self_right, Nat.mod_eq_of_lt (by omega)]
        exact ⟨by omega, rfl⟩
      · rintro ⟨h3, h4⟩
        rw [h3, h4]; exact Nat.div_add_mod' m (n + 1)
    rw [lp_succ]
    show gt (st (lp (fillC n cells) m zeros) (9 * (m / (n + 1)) + m % (n + 1)) (gt cells m)) _ = _
    rw [gt_st_cell _ _ _ _ _ _ h1 (by omega) (by omega) (by omega)]
    by_cases he : p * (n + 1) + q = m
    · obtain ⟨h3, h4⟩ := hpq.1 he
      rw [if_pos ⟨h3, h4⟩, he, if_pos (by omega)]
    · have key : (p * (n + 1) + q < m + 1) ↔ (p * (n + 1) + q < m) := ⟨fun h => Nat.lt_of_le_of_ne (Nat.le_of_lt_succ h) he, fun h => Nat.lt_succ_of_lt h⟩
      have h5 := h2 p q hp hq
      rw [if_neg (fun h => he (hpq.2 h)), h5]
      by_cases hlt2 : p * (n + 1) + q < m
      · rw [if_pos hlt2, if_pos (key.2 hlt2)]
      · rw [if_neg hlt2, if_neg (fun h => hlt2 (key.1 h))]
theorem openW_get (z : Zn) (hn : z.n ≤ 8) {p q : Nat} (hp : p ≤ z.n) (hq : q ≤ z.n) : gt (openW z) (9 * p + q) = cellN z.Z p q := by
  have hlt : p * (z.n + 1) + q < (z.n + 1) * (z.n + 1) := by
    have h3 : (p + 1) * (z.n + 1) ≤ (z.n + 1) * (z.n + 1) := Nat.mul_le_mul_right _ (by omega)
    rw [Nat.succ_mul] at h3
    exact Nat.lt_of_lt_of_le (Nat.add_lt_add_left (by omega) _) h3
  unfold openW
  rw [cellsOf_length, (fill_form hn (cellsOf z) _ (Nat.le_refl _)).2 p q hp hq, if_pos hlt]
  obtain ⟨n, Z⟩ := z
  exact dense_get Z hp hq

theorem up_form {n : Nat} (hn : n ≤ 8) (L : List Int) (hL : L.length = 81) : ∀ m, m ≤ n → ∀ p q, p ≤ n → q ≤ n → gt (lp upC m L) (9 * p + q) = if q = 0 ∧ p ≠ 0 ∧ p ≤ m then INF else gt L (9 * p + q)
  | 0, _, p, q, _, _ => by rw [if_neg (by omega)]; rfl
  | m + 1, h, p, q, hp, hq => by
    have h1 := up_form hn L hL m (by omega) p q hp hq
    have h2 : (lp upC m L).length = 81 := by rw [lp_length _ (fun i L => upC_length i L), hL]
    rw [lp_succ]
    show gt (st (lp upC m L) (9 * (m + 1)) INF) _ = _
    rw [show 9 * (m + 1) = 9 * (m + 1) + 0 from rfl, gt_st_cell _ _ _ _ _ _ h2 (by omega) (by omega) (by omega), h1]
    by_cases e : p = m + 1 ∧ q = 0
    · rw [if_pos e, if_pos (by omega)]
    · rw [if_neg e]
      by_cases e2 : q = 0 ∧ p ≠ 0 ∧ p ≤ m
      · rw [if_pos e2, if_pos (by omega)]
      · rw [if_neg e2, if_neg (by omega)]
theorem forget_form {n : Nat} (hn : n ≤ 8) (L : List Int) (hL : L.length = 81) {x : Nat} (hx : x ≠ 0) (hx2 : x ≤ n) : ∀ m, m ≤ n + 1 → ∀ p q, p ≤ n → q ≤ n →
    gt (lp (forgetC x) m L) (9 * p + q) = if p = x ∧ q ≠ x ∧ q < m then INF else if q = x ∧ p ≠ x ∧ p < m then gt L (9 * p) else gt L (9 * p + q)
  | 0, _, p, q, _, _ => by rw [if_neg (by omega), if_neg (by omega)]; rfl
  | m + 1, h, p, q, hp, hq => by
    have h1 := fun p q => forget_form hn L hL hx hx2 m (by omega) p q
    have h2 : (lp (forgetC x) m L).length = 81 := by rw [lp_length _ (fun i L => forgetC_length x i L), hL]
    rw [lp_succ]
    generalize lp (forgetC x) m L = M at *
    unfold forgetC
    by_cases e : m = x
    · rw [if_pos e, h1 p q hp hq]
      by_cases e1 : p = x ∧ q ≠ x ∧ q < m
      · rw [if_pos e1, if_pos (by omega)]
      · rw [if_neg e1]
        by_cases e2 : q = x ∧ p ≠ x ∧ p < m
        · rw [if_pos e2, if_neg (by omega), if_pos (by omega)]
        · rw [if_neg e2, if_neg (by omega), if_neg (by omega)]
    · rw [if_neg e]
      have e0 : gt (st M (9 * x + m) INF) (9 * m) = gt L (9 * m) := by
        have h3 := gt_st_cell M x m m 0 INF h2 (by omega) (by omega) (by omega)
        rw [Nat.add_zero] at h3
        rw [h3, if_neg (by omega)]
        have h4 := h1 m 0 (by omega) (by omega)
        rw [Nat.add_zero] at h4
        rw [h4, if_neg (by omega), if_neg (by omega)]
      rw [gt_st_cell _ _ _ _ _ _ (by rw [st_length]; exact h2) (by omega) (by omega) (by omega), gt_st_cell _ _ _ _ _ _ h2 (by omega) (by omega) (by omega), e0, h1 p q hp hq]
      by_cases e1 : p = m ∧ q = x
      · rw [if_pos e1, if_neg (by omega), if_pos (by omega), e1.1]
      · rw [if_neg e1]
        by_cases e2 : p = x ∧ q = m
        · rw [if_pos e2, if_pos (by omega)]
        · rw [if_neg e2]
          by_cases e3 : p = x ∧ q ≠ x ∧ q < m
          · rw [if_pos e3, if_pos (by omega)]
          · rw [if_neg e3]
            by_cases e4 : q = x ∧ p ≠ x ∧ p < m
            · rw [if_pos e4, if_neg (by omega), if_pos (by omega)]
            · rw [if_neg e4, if_neg (by omega), if_neg (by omega)]

/-- Zone and valuation after k deeds. -/
def TZ (n k : Nat) (Z : List Int) (V : Nat → Int) : Prop := ∃ Q o, TInv n Z V Q o (236 * k) (108 + 1200 * k) ∧ ∀ p, 0 ≤ Q p
section
variable {n k : Nat} {Z : List Int} {V : Nat → Int}
theorem TZ.cl (h : TZ n k Z V) : ZCl n Z := by obtain ⟨Q, o, h, _⟩ := h; exact h.cl
theorem TZ.vr (h : TZ n k Z V) (p : Nat) (hp : p ≤ n) : 0 ≤ V p ∧ V p ≤ 108 + 1200 * k := by obtain ⟨Q, o, h, _⟩ := h; exact h.vr p hp
theorem TZ.v0 (h : TZ n k Z V) : V 0 = 0 := by obtain ⟨Q, o, h, _⟩ := h; exact h.v0
theorem TZ.keep (h : TZ n k Z V) (p q : Nat) (hp : p ≤ n) (hq : q ≤ n) (hne : cellN Z p q ≠ INF) : Kf (cellN Z p q) (V p - V q) := by obtain ⟨Q, o, h, _⟩ := h; exact h.keep p q hp hq hne
theorem TZ.not_empty (h : TZ n k Z V) : emptyB Z = false := by
  have h1 := h.cl.diag 0 (by omega)
  have h1 : gt Z 0 = 1 := h1
  unfold emptyB; rw [h1]; rfl
theorem TZ.skip (h : TZ n k Z V) : TZ n (k + 1) Z V := by
  obtain ⟨Q, o, h, h0⟩ := h
  refine ⟨Q, o, ⟨h.cl, h.keep, h.bnd, h.fin, h.q0, fun p hp => ?_, h.o0, h.or, h.v0, fun p hp => ?_⟩, h0⟩
  · have := h.qr p hp; omega
  · have := h.vr p hp; omega
theorem TZ.up (h : TZ n k Z V) (hk : k < 200) {d : Int} (hd : 0 ≤ d) (hd2 : d ≤ 1200) :
    ∃ Z', ofZ n (cellsOf ⟨n, lp upC n (openW ⟨n, Z⟩)⟩) = .ok Z' ∧ TZ n (k + 1) Z' (fun p => if p = 0 then 0 else V p + d) := by
  obtain ⟨Q, o, h, h0⟩ := h
  have hn := h.cl.dim
  obtain ⟨Z', z1, z2⟩ := h.up hd (by omega) (by omega) (cellsOf_length ⟨n, lp upC n (openW ⟨n, Z⟩)⟩) (fun p q hp hq => by
    rw [dense_get _ hp hq, up_form hn _ (openW_length _) n (Nat.le_refl _) p q hp hq, openW_get ⟨n, Z⟩ hn hp hq]
    by_cases e : q = 0 ∧ p ≠ 0
    · rw [if_pos e, if_pos ⟨e.1, e.2, hp⟩]
    · rw [if_neg e, if_neg (fun h => e ⟨h.1, h.2.1⟩)])
  refine ⟨Z', z1, _, _, ⟨z2.cl, z2.keep, z2.bnd, z2.fin, z2.q0, fun p hp => ?_, z2.o0, z2.or, z2.v0, fun p hp => ?_⟩, fun p => ?_⟩
  · have := z2.qr p hp; omega
  · have := z2.vr p hp; omega
  · have := h0 p; show 0 ≤ if p = 0 then 0 else Q p + 1; split <;> omega
theorem TZ.reset (h : TZ n k Z V) (hk : k < 200) {x : Nat} {m : Int} (hx : x ≠ 0) (hx2 : x ≤ n) (hm : 0 ≤ m) (hm2 : m ≤ 9) :
    ∃ Z', ofZ n (cellsOf ⟨n, resetW n x m (openW ⟨n, Z⟩)⟩) = .ok Z' ∧ TZ n (k + 1) Z' (fun p => if p = x then 12 * m else V p) := by
  obtain ⟨Q, o, h, h0⟩ := h
  have hn := h.cl.dim
  have hL := openW_length ⟨n, Z⟩
  have hF : (lp (forgetC x) (n + 1) (openW ⟨n, Z⟩)).length = 81 := by rw [lp_length _ (fun i L => forgetC_length x i L), hL]
  obtain ⟨Z', z1, z2⟩ := h.reset (x := x) (v := m) hx hx2 ⟨hm, hm2⟩ (by omega) (by omega) (by omega) (by omega) (cellsOf_length ⟨n, resetW n x m (openW ⟨n, Z⟩)⟩) (fun p q hp hq => by
    rw [dense_get _ hp hq]
    unfold resetW cutC
    have f := fun p q hp hq => forget_form hn _ hL hx hx2 (n + 1) (Nat.le_refl _) p q hp hq
    have g := fun p q hp hq => openW_get ⟨n, Z⟩ hn (p := p) (q := q) hp hq
    have d0 := h.cl.diag 0 (by omega)
    have fx0 := f x 0 hx2 (by omega)
    rw [if_pos ⟨rfl, Ne.symm hx, by omega⟩] at fx0
    have f0x := f 0 x (by omega) hx2
    rw [if_neg (by omega), if_pos ⟨rfl, Ne.symm hx, by omega⟩] at f0x
    have g00 := g 0 0 (by show 0 ≤ n; omega) (by show 0 ≤ n; omega)
    rw [d0] at g00
    have f0x : gt (lp (forgetC x) (n + 1) (openW ⟨n, Z⟩)) (9 * 0 + x) = 1 := f0x.trans g00
    have k1 : mn (gt (lp (forgetC x) (n + 1) (openW ⟨n, Z⟩)) (9 * x + 0)) (2 * m + 1) = 2 * m + 1 := by rw [fx0]; unfold mn INF; rw [if_pos (by omega)]
    rw [k1]
    have hA : ∀ v, (st (lp (forgetC x) (n + 1) (openW ⟨n, Z⟩)) (9 * x + 0) v).length = 81 := fun v => by rw [st_length, hF]
    have k2 : mn (gt (st (lp (forgetC x) (n + 1) (openW ⟨n, Z⟩)) (9 * x + 0) (2 * m + 1)) (9 * 0 + x)) (-2 * m + 1) = -2 * m + 1 := by
      rw [gt_st_cell _ _ _ _ _ _ hF (by omega) (by omega) (by omega), if_neg (by omega), f0x]; unfold mn; split <;> omega
    rw [k2, gt_st_cell _ _ _ _ _ _ (hA _) (by omega) (by omega) (by omega), gt_st_cell _ _ _ _ _ _ hF (by omega) (by omega) (by omega), f p q hp hq, g p q hp hq]
    by_cases e1 : p = x
    · rw [if_pos e1, if_neg (by omega)]
      by_cases e2 : q = x
      · rw [if_pos e2, if_neg (by omega), if_neg (by omega), if_neg (by omega), e1, e2]
      · rw [if_neg e2]
        by_cases e3 : q = 0
        · rw [if_pos e3, if_pos ⟨e1, e3⟩]
        · rw [if_neg e3, if_neg (by omega), if_pos ⟨e1, e2, by omega⟩]
    · rw [if_neg e1]
      by_cases e2 : q = x
      · rw [if_pos e2]
        by_cases e3 : p = 0
        · rw [if_pos e3, if_pos ⟨e3, e2⟩]
        · rw [if_neg e3, if_neg (by omega), if_neg (by omega), if_neg (by omega), if_pos ⟨e2, e1, by omega⟩]
          exact g p 0 hp (by show 0 ≤ n; omega)
      · rw [if_neg e2, if_neg (by omega), if_neg (by omega), if_neg (by omega), if_neg (by omega)])
  refine ⟨Z', z1, _, _, ⟨z2.cl, z2.keep, z2.bnd, z2.fin, z2.q0, fun p hp => ?_, z2.o0, z2.or, z2.v0, fun p hp => ?_⟩, fun p => ?_⟩
  · have := z2.qr p hp; omega
  · have := z2.vr p hp; omega
  · have := h0 p; show 0 ≤ if p = x then 0 else Q p; split <;> omega
theorem TZ.cut (h : TZ n k Z V) (hk : k < 200) (n3 : n ≤ 3) {i j : Nat} (hi : i ≤ n) (hj : j ≤ n) {b : Int} (hb : -100 ≤ b) (hb2 : b ≤ 100) (hkf : Kf b (V i - V j)) :
    ∃ Z', ofZ n (cellsOf ⟨n, cutC i j b (openW ⟨n, Z⟩)⟩) = .ok Z' ∧ TZ n (k + 1) Z' V := by
  obtain ⟨Q, o, h, h0⟩ := h
  have hn := h.cl.dim
  obtain ⟨Z', z1, z2⟩ := h.cut hi hj n3 (fun k _ => h0 k) hb hb2 hkf (by omega) (by omega) (cellsOf_length ⟨n, cutC i j b (openW ⟨n, Z⟩)⟩) (fun p q hp hq => by
    rw [dense_get _ hp hq]
    unfold cutC
    rw [gt_st_cell _ _ _ _ _ _ (openW_length _) (by omega) (by omega) (by omega)]
    by_cases e : p = i ∧ q = j
    · rw [if_pos e, if_pos e, openW_get ⟨n, Z⟩ hn hi hj, e.1, e.2]
    · rw [if_neg e, if_neg e]; exact openW_get ⟨n, Z⟩ hn hp hq)
  refine ⟨Z', z1, _, _, ⟨z2.cl, z2.keep, z2.bnd, z2.fin, z2.q0, fun p hp => ?_, z2.o0, z2.or, z2.v0, fun p hp => ?_⟩, fun p => ?_⟩
  · have := z2.qr p hp; omega
  · have := z2.vr p hp; omega
  · have := h0 p; have h5 := rk_cases Q p; show 0 ≤ Q p + 59 * rk Q p; omega
end
/-- Zero: all clocks 0. -/
def ones (n : Nat) : List Int := (List.range 81).map fun t => if t / 9 ≤ n ∧ t % 9 ≤ n then 1 else 0
theorem zeroZ_ones {n : Nat} (h1 : 1 ≤ n) (h3 : n ≤ 3) : zeroZ n = .ok (ones n) := by
  rcases (by omega : n = 1 ∨ n = 2 ∨ n = 3) with rfl | rfl | rfl <;> kernel_rfl
theorem ones_cell (n : Nat) {p q : Nat} (hq : q < 9) (hp : p < 9) : cellN (ones n) p q = if p ≤ n ∧ q ≤ n then 1 else 0 := by
  unfold cellN gt ones
  rw [List.getD_eq_getElem?_getD, List.getElem?_map, List.getElem?_range (by omega)]
  show (if (9 * p + q) / 9 ≤ n ∧ (9 * p + q) % 9 ≤ n then (1 : Int) else 0) = _
  rw [show (9 * p + q) / 9 = p by omega, show (9 * p + q) % 9 = q by omega]
theorem TZ.zero {n : Nat} (h3 : n ≤ 3) : TZ n 0 (ones n) (fun _ => 0) := by
  have c : ∀ p q, p ≤ n → q ≤ n → cellN (ones n) p q = 1 := fun p q hp hq => by rw [ones_cell n (by omega) (by omega), if_pos ⟨hp, hq⟩]
  refine ⟨fun _ => 0, fun _ => 0, ⟨⟨by simp [ones], by omega, fun i hi => c i i hi hi, fun j hj => by rw [c 0 j (by omega) hj]; omega, fun i j hi hj => .inr (by rw [c i j hi hj]; omega), fun i k j hi hk hj _ _ => ?_, fun i j hj hne => ?_⟩,
    fun p q hp hq _ => ?_, fun p q hp hq _ => ?_, fun p q hp hq _ => ?_, rfl, fun p hp => by omega, rfl, fun p hp => by omega, rfl, fun p hp => by omega⟩, fun _ => Int.le_refl _⟩
  · rw [c i j hi hj, c i k hi hk, c k j hk hj]; decide
  · by_cases hi : i < 9
    · rw [ones_cell n hj hi, if_neg hne]
    · unfold cellN gt ones
      rw [List.getD_eq_getElem?_getD, List.getElem?_map, List.getElem?_eq_none (by simp; omega)]; rfl
  · rw [c p q hp hq]; exact .inr ⟨by decide, by decide⟩
  · rw [c p q hp hq]; decide
  · rw [c p q hp hq]; decide
end Go.Proofs.Ytapfihlgemejiaa
