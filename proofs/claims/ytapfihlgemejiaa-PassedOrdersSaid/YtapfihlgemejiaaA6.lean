/- Which zones of a key are kept, plain: it does not hang on the order in which they were put. -/
import Derived.Test.YtapfihlgemejiaaA4
namespace Go.Proofs.Ytapfihlgemejiaa

theorem lpI {P : Nat → List Int → Prop} {f : Nat → List Int → List Int} {m : Nat} {L : List Int} (h0 : P 0 L) (hs : ∀ i L, i < m → P i L → P (i + 1) (f i L)) : P m (lp f m L) := by
  induction m with
  | zero => exact h0
  | succ m ih =>
    rw [lp_succ]
    exact hs m _ (by omega) (ih fun i L hi => hs i L (by omega))
theorem lpOI {P : Nat → List Int → Prop} {f : Nat → List Int → Option (List Int)} {m : Nat} {L L' : List Int} (h0 : P 0 L) (hs : ∀ i L L', i < m → P i L → f i L = some L' → P (i + 1) L') (h : lpO f m L = some L') : P m L' := by
  induction m generalizing L' with
  | zero => cases h; exact h0
  | succ m ih =>
    rw [lpO_succ] at h
    cases hq : lpO f m L with
    | none => rw [hq] at h; cases h
    | some M =>
      rw [hq] at h
      exact hs m M L' (by omega) (ih (fun i L L' hi => hs i L L' (by omega)) hq) h

theorem gt_st0 {L : List Int} {t : Nat} {v : Int} (h : t ≠ 0) : gt (st L t v) 0 = gt L 0 := by
  unfold gt st
  rw [List.getD_eq_getElem?_getD, List.getElem?_set_ne h, List.getD_eq_getElem?_getD]
theorem rowL_zero {n k i : Nat} {L : List Int} (hi : 0 < i) : gt (rowL n k i L) 0 = gt L 0 := by
  refine lpI (P := fun _ M => gt M 0 = gt L 0) rfl fun j M _ h => ?_
  show gt (cellL k i j M) 0 = _
  unfold cellL
  rw [gt_st0 (by omega)]
  exact h
theorem closeL_zero {n : Nat} {L L1 : List Int} (h : closeL n L = some L1) : 1 ≤ gt L1 0 := by
  have key : 0 < n + 1 → 1 ≤ gt L1 0 := by
    refine lpOI (P := fun k M => 0 < k → 1 ≤ gt M 0) (fun h => by omega) (fun k M M' _ _ hk _ => ?_) h
    have : 0 < n + 1 → 1 ≤ gt M' 0 := by
      refine lpOI (P := fun i N => 0 < i → 1 ≤ gt N 0) (fun h => by omega) (fun i N N' _ hN hr _ => ?_) hk
      unfold rowO at hr
      split at hr
      · cases hr
      · rename_i hd
        cases hr
        by_cases hi : 0 < i
        · rw [rowL_zero hi]; exact hN hi
        · have : i = 0 := by omega
          subst this
          have hd : ¬ gt (rowL n k 0 N) 0 < 1 := hd
          omega
    exact this (by omega)
  exact key (by omega)

/-- A zone as the program makes it: the empty one is all zeros; beyond its clocks there are zeros. -/
structure Can (z : Zn) : Prop where
  len : z.Z.length = 81
  dim : z.n ≤ 8
  nil : z.Z = zeros ∨ 1 ≤ gt z.Z 0
  far : ∀ t, (∀ i j, i ≤ z.n → j ≤ z.n → t ≠ 9 * i + j) → gt z.Z t = 0

theorem gt_zeros (t : Nat) : gt zeros t = 0 := by
  unfold gt zeros
  rw [List.getD_eq_getElem?_getD, List.getElem?_replicate]
  split <;> rfl
theorem outL_st {L : List Int} {i j : Nat} {Z Z' : List Int} (h : outL L i j Z = some Z') : Z' = st Z (9 * i + j) INF ∨ Z' = st Z (9 * i + j) (gt L (9 * i + j)) := by
  unfold outL at h
  split at h
  · cases h; exact .inl rfl
  · split at h
    · cases h
    · cases h; exact .inr rfl
theorem can_zoneOf {n : Nat} {L Z : List Int} (hn : n ≤ 8) (h : zoneOf n L = .ok Z) : Can ⟨n, Z⟩ := by
  have hlen := zoneOf_length n L Z h
  unfold zoneOf at h
  cases hc : closeL n L with
  | none =>
    rw [hc] at h
    simp only [ZR.ok.injEq] at h
    subst h
    exact ⟨hlen, hn, .inl rfl, fun t _ => gt_zeros t⟩
  | some L1 =>
    rw [hc] at h
    simp only at h
    cases hz : zoneL n L1 with
    | none => rw [hz] at h; cases h
    | some Z' =>
      rw [hz] at h
      simp only [ZR.ok.injEq] at h
      subst h
      have h0 := closeL_zero hc
      unfold zoneL at hz
      have hst : ∀ {M : List Int} {t : Nat} {v : Int} (u : Nat), u ≠ t → gt (st M t v) u = gt M u := fun u hu => by
        unfold gt st
        rw [List.getD_eq_getElem?_getD, List.getElem?_set_ne (Ne.symm hu), List.getD_eq_getElem?_getD]
      have hs0 : ∀ {M : List Int} {v : Int}, M.length = 81 → gt (st M 0 v) 0 = v := fun hM => by
        rw [gt_st _ _ _ _ (by omega), if_pos rfl]
      refine ⟨hlen, hn, .inr ?_, ?_⟩
      · have key : Z'.length = 81 ∧ (0 < n + 1 → 1 ≤ gt Z' 0) := by
          refine lpOI (P := fun i M => M.length = 81 ∧ (0 < i → 1 ≤ gt M 0)) ⟨zeros_length, fun h => by omega⟩ (fun i M M' _ hM hi => ?_) hz
          have : M'.length = 81 ∧ ((0 < i ∨ 0 < n + 1) → 1 ≤ gt M' 0) := by
            refine lpOI (P := fun j N => N.length = 81 ∧ ((0 < i ∨ 0 < j) → 1 ≤ gt N 0)) ⟨hM.1, fun h => ?_⟩ (fun j N N' _ hN hj => ?_) hi
            · rcases h with h | h
              · exact hM.2 h
              · omega
            · refine ⟨by rw [outL_length _ _ _ _ _ hj]; exact hN.1, fun _ => ?_⟩
              by_cases hij : 9 * i + j = 0
              · rcases outL_st hj with e | e
                · rw [e, hij, hs0 hN.1]; decide
                · rw [e, hij, hs0 hN.1]; exact h0
              · have hne : (0 : Nat) ≠ 9 * i + j := fun e => hij e.symm
                rcases outL_st hj with e | e
                · rw [e, hst 0 hne]; exact hN.2 (by omega)
                · rw [e, hst 0 hne]; exact hN.2 (by omega)
          exact ⟨this.1, fun _ => this.2 (.inr (by omega))⟩
        exact key.2 (by omega)
      · intro t ht
        have key : gt Z' t = 0 := by
          refine lpOI (P := fun _ M => gt M t = 0) (gt_zeros t) (fun i M M' hi hM hl => ?_) hz
          refine lpOI (P := fun _ N => gt N t = 0) hM (fun j N N' hj hN ho => ?_) hl
          have hne := ht i j (by show i ≤ n; omega) (by show j ≤ n; omega)
          rcases outL_st ho with e | e
          · rw [e, hst t hne]; exact hN
          · rw [e, hst t hne]; exact hN
        exact key
theorem can_zoneS {x : Stp} {z : Zn} (h : zoneS x = some z) : Can z := by
  unfold zoneS at h
  cases hq : ofZ x.n x.cells with
  | err c => rw [hq] at h; cases h
  | ok Z =>
    rw [hq] at h
    simp only [Option.some.injEq] at h
    subst h
    unfold ofZ at hq
    split at hq
    · cases hq
    · rename_i hf
      have hf : fewB x.n = true := by simpa using hf
      have hf : 0 ≤ x.n ∧ x.n ≤ 8 := of_decide_eq_true hf
      split at hq
      · cases hq
      · split at hq
        · cases hq
        · exact can_zoneOf (by omega) hq

theorem incl_both {a b : Zn} (ha : Can a) (hb : Can b) (h1 : inclB a b = true) (h2 : inclB b a = true) : a = b := by
  obtain ⟨n1, p1⟩ := (inclB_iff a b).1 h1
  obtain ⟨_, p2⟩ := (inclB_iff b a).1 h2
  have hem : ∀ {z : Zn}, Can z → emptyB z.Z = true → z.Z = zeros := fun hz he => by
    rcases hz.nil with h | h
    · exact h
    · unfold emptyB at he
      simp only [decide_eq_true_eq] at he
      omega
  have hZ : a.Z = b.Z := by
    have hempty : ∀ {x y : Zn}, x.n = y.n → emptyB y.Z = true → (emptyB x.Z = true ∨ ∀ i j, i ≤ y.n → j ≤ y.n → gt x.Z (9 * i + j) ≤ gt y.Z (9 * i + j)) → emptyB x.Z = true := fun _ hy hx => by
      rcases hx with hx | hx
      · exact hx
      · have := hx 0 0 (Nat.zero_le _) (Nat.zero_le _)
        unfold emptyB at hy ⊢
        simp only [decide_eq_true_eq, Nat.mul_zero, Nat.add_zero] at *
        omega
    rcases p1 with p1 | p1
    · have := hempty n1 p1 p2
      rw [hem ha this, hem hb p1]
    · rcases p2 with p2 | p2
      · have := hempty n1.symm p2 (.inr p1)
        rw [hem ha p2, hem hb this]
      · apply List.ext_getElem (by rw [ha.len, hb.len])
        intro t h3 h4
        have hg : gt a.Z t = gt b.Z t := by
          by_cases hin : ∃ i j, i ≤ a.n ∧ j ≤ a.n ∧ t = 9 * i + j
          · obtain ⟨i, j, hi, hj, rfl⟩ := hin
            have q1 := p1 i j hi hj
            have q2 := p2 i j (by omega) (by omega)
            omega
          · rw [ha.far t (fun i j hi hj e => hin ⟨i, j, hi, hj, e⟩), hb.far t (fun i j hi hj e => hin ⟨i, j, by omega, by omega, e⟩)]
        unfold gt at hg
        rw [List.getD_eq_getElem?_getD, List.getD_eq_getElem?_getD, List.getElem?_eq_getElem h3, List.getElem?_eq_getElem h4] at hg
        simpa using hg
  obtain ⟨n, Z⟩ := a
  obtain ⟨m, Y⟩ := b
  simp only at n1 hZ
  rw [n1, hZ]

/-- Each entry comes of a step. -/
def From (l : List Stp) (s : Sto) : Prop := ∀ i, i < s.ents.length → ∃ x ∈ l, x.kind = 0 ∧ x.key = (entAt s.ents i).key ∧ zoneS x = some (entAt s.ents i).zone
theorem from_ran {last : Bool} {l : List Stp} {s : Sto} (h : Ran last l s) : From l s := by
  induction h with
  | nil => intro i hi; simp [newS] at hi
  | snoc hr hd ih =>
    rename_i l s s' y
    have old : ∀ i, i < s.ents.length → ∃ x ∈ l ++ [y], x.kind = 0 ∧ x.key = (entAt s.ents i).key ∧ zoneS x = some (entAt s.ents i).zone := fun i hi => by
      obtain ⟨x, hx, r⟩ := ih i hi
      exact ⟨x, List.mem_append_left _ hx, r⟩
    cases hd with
    | none => exact old
    | covered => exact old
    | full => exact old
    | put z hk hz _ _ ka kc zb =>
      intro i hi
      rw [putS_length] at hi
      by_cases h1 : i < s.ents.length
      · rw [(putS_zone h1).1, (putS_zone h1).2]; exact old i h1
      · have : i = s.ents.length := by omega
        subst this
        rw [putS_new]
        exact ⟨y, by simp, hk, rfl, hz⟩
    | take i r _ hw =>
      intro j hj
      rw [takeS_length] at hj
      rw [(takeS_ent (waitS_head hw).1 j).1, (takeS_ent (waitS_head hw).1 j).2.1]
      exact old j hj
def putsOf (l : List Stp) : List Stp := l.filter fun x => decide (x.kind = 0)
theorem ran_length {last : Bool} {l : List Stp} {s : Sto} (h : Ran last l s) : s.ents.length ≤ (putsOf l).length := by
  induction h with
  | nil => exact Nat.zero_le _
  | snoc hr hd ih =>
    rename_i l s s' y
    have hm : (putsOf l).length ≤ (putsOf (l ++ [y])).length := by unfold putsOf; rw [List.filter_append, List.length_append]; omega
    cases hd with
    | none => omega
    | covered => omega
    | full => omega
    | put z hk => 
      rw [putS_length]
      unfold putsOf at ih ⊢
      rw [List.filter_append, List.length_append]
      simp [hk]
      omega
    | take => rw [takeS_length]; omega

theorem length_le_of_nodup {α : Type} : ∀ (l m : List α), l.Nodup → (∀ x ∈ l, x ∈ m) → l.length ≤ m.length
  | [], _, _, _ => Nat.zero_le _
  | a :: l, m, hn, hs => by
    obtain ⟨hna, hnl⟩ := List.nodup_cons.1 hn
    obtain ⟨s, t, rfl⟩ := List.append_of_mem (hs a List.mem_cons_self)
    have := length_le_of_nodup l (s ++ t) hnl fun x hx => by
      rcases List.mem_append.1 (hs x (List.mem_cons_of_mem _ hx)) with h | h
      · exact List.mem_append_left _ h
      · rcases List.mem_cons.1 h with rfl | h
        · exact absurd hx hna
        · exact List.mem_append_right _ h
    simp only [List.length_append, List.length_cons] at this ⊢
    omega

section
variable {la lb : Bool} {l m : List Stp} {a b : Sto}
theorem kept_cov (ha : Ran la l a) (hb : Ran lb m b) (hlb : b.ents.length < 4096) (hsub : ∀ x, x.kind = 0 → (x ∈ l ↔ x ∈ m)) {key : List Int} {i : Nat} (hi : i ∈ idxs a.ents key) : Cov b.ents key (entAt a.ents i).zone := by
  obtain ⟨h1, h2, _⟩ := mem_idxs.1 hi
  obtain ⟨x, hx, hk, hkey, hz⟩ := from_ran ha i h1
  have := ran_covers hb hlb x ((hsub x hk).1 hx) hk _ hz
  rwa [hkey, h2] at this
theorem kept_same (ha : Ran la l a) (hb : Ran lb m b) (hla : a.ents.length < 4096) (hsub : ∀ x, x.kind = 0 → (x ∈ l ↔ x ∈ m)) {key : List Int} {i k : Nat} (hi : i ∈ idxs a.ents key) (hk : k ∈ idxs b.ents key) (hc : inclB (entAt b.ents k).zone (entAt a.ents i).zone = true) : (entAt b.ents k).zone = (entAt a.ents i).zone := by
  obtain ⟨j, hj, hcj⟩ := kept_cov hb ha hla (fun x hx => (hsub x hx).symm) hk
  have hji : inclB (entAt a.ents j).zone (entAt a.ents i).zone = true := inclB_trans hcj hc
  have : j = i := by
    rcases Nat.decEq j i with h | h
    · have := (inv_ran ha).apart key j i hj hi h
      rw [hji] at this; cases this
    · exact h
  subst this
  obtain ⟨h1, _, _⟩ := mem_idxs.1 hi
  obtain ⟨h2, _, _⟩ := mem_idxs.1 hk
  obtain ⟨x, _, _, _, hz⟩ := from_ran ha j h1
  obtain ⟨y, _, _, _, hw⟩ := from_ran hb k h2
  exact incl_both (can_zoneS hw) (can_zoneS hz) hc hcj
theorem kept_le (ha : Ran la l a) (hb : Ran lb m b) (hla : a.ents.length < 4096) (hlb : b.ents.length < 4096) (hsub : ∀ x, x.kind = 0 → (x ∈ l ↔ x ∈ m)) (key : List Int) : (idxs a.ents key).length ≤ (idxs b.ents key).length := by
  have h := length_le_of_nodup ((idxs a.ents key).map fun i => (entAt a.ents i).zone) ((idxs b.ents key).map fun i => (entAt b.ents i).zone) ?_ ?_
  · simpa using h
  · unfold List.Nodup
    rw [List.pairwise_map]
    have hn : (idxs a.ents key).Nodup := List.nodup_range.sublist List.filter_sublist
    refine List.Pairwise.imp_of_mem (fun {i j} hi hj hij e => ?_) hn
    have := (inv_ran ha).apart key i j hi hj hij
    rw [e, inclB_refl] at this
    cases this
  · intro z hz
    obtain ⟨i, hi, rfl⟩ := List.mem_map.1 hz
    obtain ⟨k, hk, hc⟩ := kept_cov ha hb hlb hsub hi
    exact List.mem_map.2 ⟨k, hk, kept_same ha hb hla hsub hi hk hc⟩
/-- P16.8. -/
theorem kept_orders (ha : Ran la l a) (hb : Ran lb m b) (hla : a.ents.length < 4096) (hlb : b.ents.length < 4096) (hsub : ∀ x, x.kind = 0 → (x ∈ l ↔ x ∈ m)) (key : List Int) : (idxs a.ents key).length = (idxs b.ents key).length ∧ ∀ i, i ∈ idxs a.ents key → ∃ k : Nat, coversS b.ents key (entAt a.ents i).zone = (k : Int) ∧ k < b.ents.length ∧ (entAt b.ents k).zone = (entAt a.ents i).zone := by
  refine ⟨Nat.le_antisymm (kept_le ha hb hla hlb hsub key) (kept_le hb ha hlb hla (fun x hx => (hsub x hx).symm) key), fun i hi => ?_⟩
  have hp := cov_iff.1 (kept_cov ha hb hlb hsub hi)
  obtain ⟨k, hk, he, hc⟩ := firstIn_some hp
  exact ⟨k, he, (mem_idxs.1 hk).1, kept_same ha hb hla hsub hi hk hc⟩
end
end Go.Proofs.Ytapfihlgemejiaa
