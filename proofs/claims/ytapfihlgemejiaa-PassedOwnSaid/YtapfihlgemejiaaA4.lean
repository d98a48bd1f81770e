/- Calls of a store, plain: what a list of steps makes of it; what holds of each store that comes about so. -/
import Derived.Test.YtapfihlgemejiaaA3
namespace Go.Proofs.Ytapfihlgemejiaa

structure Stp where
  kind : Int
  key : List Int
  n : Int
  cells : List Int

/-- The zone of a step. -/
def zoneS (x : Stp) : Option Zn := match ofZ x.n x.cells with
  | .ok Z => some ⟨x.n.toNat, Z⟩
  | .err _ => none
theorem zoneS_ok {x : Stp} {Z : List Int} (h : ofZ x.n x.cells = .ok Z) : zoneS x = some ⟨x.n.toNat, Z⟩ := by unfold zoneS; rw [h]
theorem zoneS_err {x : Stp} {c : Int} (h : ofZ x.n x.cells = .err c) : zoneS x = none := by unfold zoneS; rw [h]

/-- A store behind a Take that took entry i. -/
def takeS (s : Sto) (i : Nat) : Sto := { s with ents := s.ents.modify i (takeE s.tk), tk := s.tk + 1 }

/-- What a step makes of a store. -/
inductive Did (s : Sto) (x : Stp) : Sto → Prop
  | none (h : x.kind ≠ 0 ∨ zoneS x = none) (h1 : x.kind ≠ 1 ∨ waitS s = []) : Did s x s
  | covered (z : Zn) (h : x.kind = 0) (hz : zoneS x = some z) (hc : 0 ≤ coversS s.ents x.key z) : Did s x s
  | full (z : Zn) (h : x.kind = 0) (hz : zoneS x = some z) (hc : coversS s.ents x.key z < 0) (hl : 4096 ≤ s.ents.length) : Did s x s
  | put (z : Zn) (h : x.kind = 0) (hz : zoneS x = some z) (hc : coversS s.ents x.key z < 0) (hl : s.ents.length < 4096) (ka : Option (Nat × Nat)) (kc zb : Nat) : Did s x (putS s x.key z ka kc zb)
  | take (i : Nat) (r : List Nat) (h : x.kind = 1) (hw : waitS s = i :: r) : Did s x (takeS s i)

def newS (last : Bool) : Sto := { last := last, ents := [], tk := 0 }
/-- A store that calls have made. -/
inductive Ran (last : Bool) : List Stp → Sto → Prop
  | nil : Ran last [] (newS last)
  | snoc {l : List Stp} {s s' : Sto} {x : Stp} (h : Ran last l s) (hd : Did s x s') : Ran last (l ++ [x]) s'

theorem inclB_refl (z : Zn) : inclB z z = true := inclB_all rfl fun _ _ _ _ => Int.le_refl _
theorem inclB_trans {a b c : Zn} (h1 : inclB a b = true) (h2 : inclB b c = true) : inclB a c = true := by
  obtain ⟨n1, p1⟩ := (inclB_iff a b).1 h1
  obtain ⟨n2, p2⟩ := (inclB_iff b c).1 h2
  refine (inclB_iff a c).2 ⟨n1.trans n2, ?_⟩
  rcases p2 with p2 | p2
  · exact .inl p2
  · rcases p1 with p1 | p1
    · refine .inl ?_
      have h0 := p2 0 0 (Nat.zero_le _) (Nat.zero_le _)
      unfold emptyB at p1 ⊢
      simp only [decide_eq_true_eq] at p1 ⊢
      have : gt c.Z (9 * 0 + 0) ≤ gt b.Z (9 * 0 + 0) := h0
      simp only [Nat.mul_zero, Nat.add_zero] at this
      omega
    · exact .inr fun i j hi hj => Int.le_trans (p2 i j (by omega) (by omega)) (p1 i j hi hj)

theorem mem_idxs {l : List Ent} {key : List Int} {i : Nat} : i ∈ idxs l key ↔ i < l.length ∧ (entAt l i).key = key ∧ (entAt l i).gone = false := by
  unfold idxs under
  simp only [List.mem_filter, List.mem_range, Bool.and_eq_true, decide_eq_true_eq, Bool.not_eq_true']
theorem mem_keptOf {l : List Ent} {key : List Int} {z : Zn} {i : Nat} : i ∈ keptOf l key z ↔ i ∈ idxs l key ∧ inclB z (entAt l i).zone = false := by
  unfold keptOf
  simp only [List.mem_filter, Bool.not_eq_true']
theorem firstIn_none {l : List Ent} {z : Zn} : ∀ {r : List Nat}, firstIn l z r < 0 → ∀ i ∈ r, inclB (entAt l i).zone z = false
  | [], _, i, hi => by cases hi
  | j :: r, h, i, hi => by
    unfold firstIn at h
    split at h
    · omega
    · rename_i hj
      rcases List.mem_cons.1 hi with rfl | hi
      · simpa using hj
      · exact firstIn_none h i hi
theorem firstIn_some {l : List Ent} {z : Zn} : ∀ {r : List Nat}, 0 ≤ firstIn l z r → ∃ i, i ∈ r ∧ firstIn l z r = (i : Int) ∧ inclB (entAt l i).zone z = true
  | [], h => by unfold firstIn at h; omega
  | j :: r, h => by
    unfold firstIn at h ⊢
    split at h
    · rename_i hj
      rw [if_pos hj]
      exact ⟨j, List.mem_cons_self, rfl, hj⟩
    · rename_i hj
      rw [if_neg hj]
      obtain ⟨i, hi, he, hc⟩ := firstIn_some h
      exact ⟨i, List.mem_cons_of_mem _ hi, he, hc⟩
theorem firstIn_pos {l : List Ent} {z : Zn} {r : List Nat} {i : Nat} (hi : i ∈ r) (hc : inclB (entAt l i).zone z = true) : 0 ≤ firstIn l z r := by
  rcases Int.lt_or_le (firstIn l z r) 0 with h | h
  · have := firstIn_none h i hi
    rw [hc] at this; cases this
  · exact h

/-- A zone is covered under a key. -/
def Cov (l : List Ent) (key : List Int) (z : Zn) : Prop := ∃ i, i ∈ idxs l key ∧ inclB (entAt l i).zone z = true
theorem cov_iff {l : List Ent} {key : List Int} {z : Zn} : Cov l key z ↔ 0 ≤ coversS l key z := by
  constructor
  · rintro ⟨i, hi, hc⟩; exact firstIn_pos hi hc
  · intro h
    obtain ⟨i, hi, _, hc⟩ := firstIn_some h
    exact ⟨i, hi, hc⟩

theorem putS_length (s : Sto) (key : List Int) (z : Zn) (ka : Option (Nat × Nat)) (kc zb : Nat) : (putS s key z ka kc zb).ents.length = s.ents.length + 1 := by
  unfold putS; simp [dropAll_length]
theorem putS_old {s : Sto} {key : List Int} {z : Zn} {ka : Option (Nat × Nat)} {kc zb : Nat} {i : Nat} (hi : i < s.ents.length) :
    entAt (putS s key z ka kc zb).ents i = if i ∈ dropped s.ents key z then goneE (entAt s.ents i) else entAt s.ents i := by
  unfold putS
  simp only
  rw [entAt_append_left (by rw [dropAll_length]; exact hi), entAt_dropAll _ _ dropped_lt]
theorem putS_new {s : Sto} {key : List Int} {z : Zn} {ka : Option (Nat × Nat)} {kc zb : Nat} :
    entAt (putS s key z ka kc zb).ents s.ents.length = { key := key, zone := z, taken := -1, gone := false, ka := ka, kc := kc, zb := zb } := by
  unfold putS
  simp only
  have h := entAt_append_right (l := dropAll s.ents (dropped s.ents key z)) (e := { key := key, zone := z, taken := -1, gone := false, ka := ka, kc := kc, zb := zb })
  rwa [dropAll_length] at h
theorem putS_zone {s : Sto} {key : List Int} {z : Zn} {ka : Option (Nat × Nat)} {kc zb : Nat} {i : Nat} (hi : i < s.ents.length) :
    (entAt (putS s key z ka kc zb).ents i).zone = (entAt s.ents i).zone ∧ (entAt (putS s key z ka kc zb).ents i).key = (entAt s.ents i).key := by
  rw [putS_old hi]
  split
  · exact ⟨rfl, rfl⟩
  · exact ⟨rfl, rfl⟩
theorem cov_put {s : Sto} {key k : List Int} {z y : Zn} (ka : Option (Nat × Nat)) (kc zb : Nat) (h : Cov s.ents k y) : Cov (putS s key z ka kc zb).ents k y := by
  obtain ⟨i, hi, hc⟩ := h
  have hil := (mem_idxs.1 hi).1
  by_cases hk : k = key
  · subst hk
    cases hq : inclB z (entAt s.ents i).zone with
    | true =>
      refine ⟨s.ents.length, ?_, ?_⟩
      · rw [idxs_putS, if_pos rfl]; simp
      · rw [putS_new]; exact inclB_trans hq hc
    | false =>
      refine ⟨i, ?_, ?_⟩
      · rw [idxs_putS, if_pos rfl]
        exact List.mem_append_left _ (mem_keptOf.2 ⟨hi, hq⟩)
      · rw [(putS_zone hil).1]; exact hc
  · refine ⟨i, ?_, ?_⟩
    · rw [idxs_putS, if_neg hk]; exact hi
    · rw [(putS_zone hil).1]; exact hc
theorem cov_put_self {s : Sto} {key : List Int} {z : Zn} (ka : Option (Nat × Nat)) (kc zb : Nat) : Cov (putS s key z ka kc zb).ents key z :=
  ⟨s.ents.length, by rw [idxs_putS, if_pos rfl]; simp, by rw [putS_new]; exact inclB_refl z⟩

theorem idxs_modify {l : List Ent} {i : Nat} (hi : i < l.length) (f : Ent → Ent) (hf : ∀ e, (f e).key = e.key ∧ (f e).gone = e.gone) (key : List Int) : idxs (l.modify i f) key = idxs l key := by
  unfold idxs
  rw [List.length_modify]
  apply List.filter_congr
  intro j _
  unfold under
  rw [entAt_modify l i j f hi]
  split
  · rw [(hf _).1, (hf _).2]
  · rfl
theorem idxs_takeS {s : Sto} {i : Nat} (hi : i < s.ents.length) (key : List Int) : idxs (takeS s i).ents key = idxs s.ents key := idxs_modify hi (takeE s.tk) (fun _ => ⟨rfl, rfl⟩) key
theorem takeS_ent {s : Sto} {i : Nat} (hi : i < s.ents.length) (j : Nat) : (entAt (takeS s i).ents j).zone = (entAt s.ents j).zone ∧ (entAt (takeS s i).ents j).key = (entAt s.ents j).key ∧ (entAt (takeS s i).ents j).gone = (entAt s.ents j).gone := by
  unfold takeS
  simp only
  rw [entAt_modify _ _ _ _ hi]
  split
  · exact ⟨rfl, rfl, rfl⟩
  · exact ⟨rfl, rfl, rfl⟩
theorem takeS_length (s : Sto) (i : Nat) : (takeS s i).ents.length = s.ents.length := by unfold takeS; simp
theorem cov_take {s : Sto} {i : Nat} (hi : i < s.ents.length) {k : List Int} {y : Zn} (h : Cov s.ents k y) : Cov (takeS s i).ents k y := by
  obtain ⟨j, hj, hc⟩ := h
  exact ⟨j, by rw [idxs_takeS hi]; exact hj, by rw [(takeS_ent hi j).1]; exact hc⟩
theorem waitS_mem {s : Sto} {i : Nat} (h : i ∈ waitS s) : i < s.ents.length ∧ waitsB (entAt s.ents i) = true := by
  unfold waitS at h
  split at h
  · rw [List.mem_reverse, List.mem_filter] at h
    exact ⟨List.mem_range.1 h.1, h.2⟩
  · rw [List.mem_filter] at h
    exact ⟨List.mem_range.1 h.1, h.2⟩
theorem waitS_head {s : Sto} {i : Nat} {r : List Nat} (h : waitS s = i :: r) : i < s.ents.length ∧ waitsB (entAt s.ents i) = true := waitS_mem (by rw [h]; exact List.mem_cons_self)

/-- What is covered stays covered, by each step. -/
theorem cov_did {s s' : Sto} {x : Stp} (hd : Did s x s') {k : List Int} {y : Zn} (h : Cov s.ents k y) : Cov s'.ents k y := by
  cases hd with
  | none => exact h
  | covered => exact h
  | full => exact h
  | put z _ _ _ _ ka kc zb => exact cov_put ka kc zb h
  | take i r _ hw => exact cov_take (waitS_head hw).1 h
theorem length_did {s s' : Sto} {x : Stp} (hd : Did s x s') : s.ents.length ≤ s'.ents.length := by
  cases hd with
  | none => exact Nat.le_refl _
  | covered => exact Nat.le_refl _
  | full => exact Nat.le_refl _
  | put => rw [putS_length]; omega
  | take => rw [takeS_length]; exact Nat.le_refl _

/-- P16.6: what was put is covered for ever. -/
theorem ran_covers {last : Bool} {l : List Stp} {s : Sto} (h : Ran last l s) (hl : s.ents.length < 4096) : ∀ x ∈ l, x.kind = 0 → ∀ z, zoneS x = some z → Cov s.ents x.key z := by
  induction h with
  | nil => intro x hx; cases hx
  | snoc hr hd ih =>
    rename_i l s s' y
    have hl2 := length_did hd
    intro x hx hk z hz
    rcases List.mem_append.1 hx with hx | hx
    · exact cov_did hd (ih (by omega) x hx hk z hz)
    · simp only [List.mem_singleton] at hx
      subst hx
      cases hd with
      | none h h1 =>
        rcases h with h | h
        · exact absurd hk h
        · rw [hz] at h; cases h
      | covered z' _ hz' hc =>
        rw [hz] at hz'; cases hz'
        exact cov_iff.2 hc
      | full _ _ _ _ hl' => omega
      | put z' _ hz' _ _ ka kc zb =>
        rw [hz] at hz'; cases hz'
        exact cov_put_self ka kc zb
      | take i r h _ => omega

/-- P16.4, P16.5: of two entries of a key that are not gone neither includes the other; each entry is included in one that is not gone. -/
structure Inv (s : Sto) : Prop where
  apart : ∀ key i j, i ∈ idxs s.ents key → j ∈ idxs s.ents key → i ≠ j → inclB (entAt s.ents i).zone (entAt s.ents j).zone = false
  cov : ∀ i, i < s.ents.length → Cov s.ents (entAt s.ents i).key (entAt s.ents i).zone

theorem inv_did {s s' : Sto} {x : Stp} (hd : Did s x s') (h : Inv s) : Inv s' := by
  cases hd with
  | none => exact h
  | covered => exact h
  | full => exact h
  | take i r _ hw =>
    have hi := (waitS_head hw).1
    refine ⟨fun key a b ha hb hab => ?_, fun a ha => ?_⟩
    · rw [idxs_takeS hi] at ha hb
      rw [(takeS_ent hi a).1, (takeS_ent hi b).1]
      exact h.apart key a b ha hb hab
    · rw [takeS_length] at ha
      rw [(takeS_ent hi a).1, (takeS_ent hi a).2.1]
      exact cov_take hi (h.cov a ha)
  | put z _ hz hc hl ka kc zb =>
    have hno := fun i hi => firstIn_none hc i hi
    refine ⟨fun key a b ha hb hab => ?_, fun a ha => ?_⟩
    · rw [idxs_putS] at ha hb
      by_cases hk : key = x.key
      · rw [if_pos hk] at ha hb
        subst hk
        have old : ∀ c, c ∈ keptOf s.ents x.key z → c < s.ents.length ∧ c ∈ idxs s.ents x.key ∧ inclB z (entAt s.ents c).zone = false := fun c hc => by
          obtain ⟨h1, h2⟩ := mem_keptOf.1 hc
          exact ⟨(mem_idxs.1 h1).1, h1, h2⟩
        rcases List.mem_append.1 ha with ha | ha
        · obtain ⟨a1, a2, a3⟩ := old a ha
          rcases List.mem_append.1 hb with hb | hb
          · obtain ⟨b1, b2, b3⟩ := old b hb
            rw [(putS_zone a1).1, (putS_zone b1).1]
            exact h.apart _ a b a2 b2 hab
          · simp only [List.mem_singleton] at hb
            subst hb
            rw [(putS_zone a1).1, putS_new]
            exact hno a a2
        · simp only [List.mem_singleton] at ha
          subst ha
          rcases List.mem_append.1 hb with hb | hb
          · obtain ⟨b1, b2, b3⟩ := old b hb
            rw [(putS_zone b1).1, putS_new]
            exact b3
          · simp only [List.mem_singleton] at hb
            exact absurd hb.symm hab
      · rw [if_neg hk] at ha hb
        have a1 := (mem_idxs.1 ha).1
        have b1 := (mem_idxs.1 hb).1
        rw [(putS_zone a1).1, (putS_zone b1).1]
        exact h.apart key a b ha hb hab
    · rw [putS_length] at ha
      by_cases ha2 : a < s.ents.length
      · rw [(putS_zone ha2).1, (putS_zone ha2).2]
        exact cov_put ka kc zb (h.cov a ha2)
      · have : a = s.ents.length := by omega
        subst this
        rw [putS_new]
        exact cov_put_self ka kc zb
theorem inv_ran {last : Bool} {l : List Stp} {s : Sto} (h : Ran last l s) : Inv s := by
  induction h with
  | nil => exact ⟨fun key i j hi => by have := (mem_idxs.1 hi).1; simp [newS] at this, fun i hi => by simp [newS] at hi⟩
  | snoc _ hd ih => exact inv_did hd ih
end Go.Proofs.Ytapfihlgemejiaa
