/- reduce.Unpack. -/
import Derived.Test.YtapfihlgemejiaaC1
namespace Go.Proofs.Ytapfihlgemejiaa
open Go.RowKit Go.Proofs.YtapfihlgemejiaaW.PrintLast
def r76aT : Bool × List (List Nat × List Nat) := (true, [([], []), ([0], [0]), ([1], [1]), ([2], [2]), ([], []), ([4], [4]), ([5], [5]), ([6], [6]), ([7], [7]), ([8], [8]), ([3, 0, 1, 2, 3], [3]), ([9, 10, 0, 1, 2, 3, 4, 5, 6, 7, 8, 9, 10], [9])])
def r76aB : List Nat := [0, 1, 3, 7, 0, 16, 48, 112, 240, 496, 15, 2047]
theorem r76aTab : rtab .any (opsOf Try.f76 5) = r76aT := by kernel_rfl
theorem r76aBits : waitsOk r76aT.2 r76aB = true := by kernel_rfl
def r76bT : Bool × List (List Nat × List Nat) := (true, [([], []), ([0], [0]), ([1], [1]), ([2], [2]), ([3], [3]), ([], []), ([5], [5]), ([6], [6]), ([7], [7]), ([8], [8]), ([4, 9], [4, 9]), ([], []), ([11], [11]), ([12], [12]), ([13], [13]), ([14], [14]), ([10, 15], [10, 15]), ([], []), ([17], [17]), ([18], [18]), ([19], [19]), ([16, 20], [16, 20]), ([21, 0, 1, 2, 3, 4, 5, 6, 7, 8, 9, 10, 11, 12, 13, 14, 15, 16, 17, 18, 19, 20, 21], [21])])
def r76bB : List Nat := [0, 1, 3, 7, 15, 0, 32, 96, 224, 480, 1023, 0, 2048, 6144, 14336, 30720, 65535, 0, 131072, 393216, 917504, 2097151, 4194303]
theorem r76bTab : rtab .any (opsOf Try.f76 13) = r76bT := by kernel_rfl
theorem r76bBits : waitsOk r76bT.2 r76bB = true := by kernel_rfl
def r76cT : Bool × List (List Nat × List Nat) := (true, [([], []), ([0], [0]), ([1], [1]), ([2], [2]), ([3], [3]), ([], []), ([5], [5]), ([6], [6]), ([7], [7]), ([8], [8]), ([], []), ([10], [10]), ([11], [11]), ([4, 9, 12], [4, 9, 12]), ([], []), ([14, 13, 0, 1, 2, 3, 4, 5, 6, 7, 8, 9, 10, 11, 12, 13, 14], [13, 14])])
def r76cB : List Nat := [0, 1, 3, 7, 15, 0, 32, 96, 224, 480, 0, 1024, 3072, 8191, 0, 32767]
theorem r76cTab : rtab .any (opsOf Try.f76 14) = r76cT := by kernel_rfl
theorem r76cBits : waitsOk r76cT.2 r76cB = true := by kernel_rfl
/-- What Unpack answers: a fault's place, or a zone. -/
inductive UR where
  | bad (at_ : Int)
  | ok (n : Nat) (Z : List Int)
def limAt (b : List Int) (t : Nat) : Lim :=
  ⟨gt b (2 + 5 * t) / 16, gt b (2 + 5 * t) % 16, gt b (2 + 5 * t + 1) * 16777216 + gt b (2 + 5 * t + 2) * 65536 + gt b (2 + 5 * t + 3) * 256 + gt b (2 + 5 * t + 4) - 2147483648⟩
def limsOf (b : List Int) (t : Nat) : List Lim := (List.range t).map (limAt b)
def okLim (n : Int) (x : Lim) : Bool := decide (x.i ≤ n) && decide (x.j ≤ n) && rightB x.b
def firstBad (b : List Int) (m : Nat) : Option Nat := (List.range m).find? fun t => !okLim (gt b 0) (limAt b t)
def unpackR (b : List Int) : UR :=
  if b = [] ∨ 8 < gt b 0 then .bad 0 else if b.length = 1 then .bad 1 else
  if b.length ≠ 2 + 5 * (gt b 1).toNat then .bad (if (b.length : Int) < 2 + 5 * gt b 1 then b.length else 2 + 5 * gt b 1) else
  match firstBad b (gt b 1).toNat with
  | some t => .bad (2 + 5 * t)
  | none => match limZ (gt b 0) (limsOf b (gt b 1).toNat) with
    | .err _ => .bad 2
    | .ok Z => if packB ⟨(gt b 0).toNat, Z⟩ = b then .ok (gt b 0).toNat Z else .bad 2
def URet (w : World) (r : UR) (e : Ending) (w' : World) : Prop :=
  match r with
  | .bad a => e = .returned (.tuple #[.pointer none, .int .i64 7, .int .i64 a])
  | .ok n Z => ∃ g, e = .returned (.tuple #[.pointer (some ⟨g, 0, none⟩), .int .i64 0, .int .i64 0]) ∧ w.heap.size ≤ g ∧ Row w' g 177 (zoneRow n Z)
theorem limsOf_succ (b : List Int) (t : Nat) : limsOf b (t + 1) = limsOf b t ++ [limAt b t] := by simp [limsOf, List.range_succ]
/-- Bytes that lie in memory, read from here on. -/
def BytesAt (w : World) (A : Option Addr) (c : Nat) (b : List Int) : Prop := b.length ≤ c ∧ (∀ x ∈ b, 0 ≤ x ∧ x ≤ 255) ∧ b.length ≤ 140737488355328 ∧ c ≤ maxLen ∧ (b ≠ [] → ∃ a off, A = some ⟨a, off, none⟩ ∧ ∀ W, New w W → ∀ k, k < b.length → W.cell? ⟨a, off + k, none⟩ = some (.int .u8 (gt b k)))
section
variable {b : List Int} {n m : Nat}
theorem unpackR_open (hn : gt b 0 = n) (hn8 : n ≤ 8) (hm : gt b 1 = m) (hlen : b.length = 2 + 5 * m) :
    unpackR b = match firstBad b m with
      | some t => .bad (2 + 5 * t)
      | none => match limZ n (limsOf b m) with
        | .err _ => .bad 2
        | .ok Z => if packB ⟨n, Z⟩ = b then .ok n Z else .bad 2 := by
  unfold unpackR
  rw [if_neg (by rw [hn]; rintro (h | h); (subst h; simp at hlen; omega); omega), if_neg (by omega), hm, Int.toNat_natCast, if_neg (by omega), hn, Int.toNat_natCast]
theorem unpackR_at (hn : gt b 0 = n) (hn8 : n ≤ 8) (hm : gt b 1 = m) (hlen : b.length = 2 + 5 * m) {t : Nat} (ht : t < m) (hok : ∀ s, s < t → okLim n (limAt b s) = true) (hbad : okLim n (limAt b t) = false) : unpackR b = .bad (2 + 5 * t) := by
  rw [unpackR_open hn hn8 hm hlen]
  have : firstBad b m = some t := by
    unfold firstBad
    rw [List.find?_eq_some_iff_getElem]
    refine ⟨by rw [hn, hbad]; rfl, t, by simpa using ht, by simp, fun j hj => ?_⟩
    simp [hn, hok j hj]
  rw [this]
theorem unpackR_all (hn : gt b 0 = n) (hn8 : n ≤ 8) (hm : gt b 1 = m) (hlen : b.length = 2 + 5 * m) (hok : ∀ s, s < m → okLim n (limAt b s) = true) :
    unpackR b = match limZ n (limsOf b m) with
        | .err _ => .bad 2
        | .ok Z => if packB ⟨n, Z⟩ = b then .ok n Z else .bad 2 := by
  rw [unpackR_open hn hn8 hm hlen]
  have : firstBad b m = none := by
    unfold firstBad
    rw [List.find?_eq_none]
    intro j hj
    rw [hn, hok j (List.mem_range.1 hj)]
    decide
  rw [this]
end
set_option maxRecDepth 100000 in
set_option maxHeartbeats 8000000 in
theorem unpack_main (A : Option Addr) (c : Nat) (b : List Int) (n m : Nat) (w : World) (hb : BytesAt w A c b) (hn : gt b 0 = n) (hn8 : n ≤ 8) (hm : gt b 1 = m) (hlen : b.length = 2 + 5 * m) :
    Calls Try.prog 76 #[.slice A b.length c] w fun e w' => URet w (unpackR b) e w' ∧ New w w' := by
  obtain ⟨hcap, hby, hmax, hcm, hrd⟩ := hb
  obtain ⟨a, off, rfl, hcell⟩ := hrd (by intro e; subst e; simp at hlen; omega)
  have hgb : ∀ k, 0 ≤ gt b k ∧ gt b k ≤ 255 := fun k => by
    by_cases hk : k < b.length
    · have : gt b k ∈ b := by unfold gt; rw [List.getD_eq_getElem?_getD, List.getElem?_eq_getElem hk]; exact List.getElem_mem hk
      exact hby _ this
    · unfold gt; rw [List.getD_eq_getElem?_getD, List.getElem?_eq_none (by omega)]; simp
  have hm255 : m ≤ 255 := by have := (hgb 1).2; omega
  have HGB := Lib.hid hgb
  unfold maxLen at hcm
  rw [hlen] at hcap ⊢
  have HL := Lib.hid hlen
  have s00 := hcell w (New.refl w) 0 (by omega)
  have s01 := hcell w (New.refl w) 1 (by omega)
  rw [Nat.add_zero, hn] at s00
  rw [hm] at s01
  have hc2 : (2 : Int) + 5 * (m : Int) ≤ (c : Int) := by omega
  have z0 : (0 : Int) < 2 + 5 * (m : Int) := by omega
  have z1 : (1 : Int) < 2 + 5 * (m : Int) := by omega
  have zz0 : 0 < 2 + 5 * m := by omega
  have zz1 : 1 < 2 + 5 * m := by omega
  have w1 : IntKind.i64.wrap (5 * (m : Int)) = 5 * (m : Int) := by rw [IntKind.wrap_i64]; omega
  have w2 : IntKind.i64.wrap (2 + 5 * (m : Int)) = 2 + 5 * (m : Int) := by rw [IntKind.wrap_i64]; omega
  have HCL : Hid (∀ W, New w W → ∀ k, k < 2 + 5 * m → W.cell? ⟨a, off + k, none⟩ = some (.int .u8 (gt b k))) := fun W hW k hk => hcell W hW k (by omega)
  clear hcell
  have HN := Lib.hid hn
  have HM := Lib.hid hm
  have wn : IntKind.i64.wrap (n : Int) = (n : Int) := by rw [IntKind.wrap_i64]; omega
  have wm : IntKind.i64.wrap (m : Int) = (m : Int) := by rw [IntKind.wrap_i64]; omega
  have e0 : ((2 + 5 * (m : Int)) == 0) = false := by simp; omega
  have e1 : ((2 + 5 * (m : Int)) == 1) = false := by simp; omega
  have e8 : decide ((8 : Int) < (n : Int)) = false := decide_eq_false (by omega)
  clear hby hrd hgb hlen hn hm
  go_enter Try.func76, Try.ntmps76
  go_wp2_with fail
  refine start_ (n := 12) (S := fun W => New w W) (ds := []) #[false, false, false, false, false, false, false, false, false, false, false, false] (by kernel_rfl) rfl rfl (New.refl w).drew (fun hHeld => ?_); refine with_tabW r76aTab r76aBits (fun HT_ HW_ => ?_)
  generalize w.drew = wd at hHeld ⊢
  refine pure_ (i := 0) (N := some 30) (v := ?_) (a' := ?_) #[true, false, false, false, false, false, false, false, false, false, false, false] rfl rfl (any_of HT_.out (by kernel_rfl)) (fun _ _ _ h => h) (Or.inl ⟨by rfl, ?_⟩) ?_ ?_
  rotate_left
  · intro w'
    go_simp
    with_reducible rfl
  rotate_left
  · simp only [Act.put, List.setIfInBounds_toArray, List.set_cons_zero, List.set_cons_succ]
    rfl
  refine pure_ (i := 1) (N := some 31) (v := ?_) (a' := ?_) #[true, true, false, false, false, false, false, false, false, false, false, false] rfl rfl (any_of HT_.out (by kernel_rfl)) (fun _ _ _ h => h) (Or.inl ⟨by rfl, ?_⟩) ?_ ?_
  rotate_left
  · intro w'
    go_simp
    with_reducible rfl
  rotate_left
  · simp only [Act.put, List.setIfInBounds_toArray, List.set_cons_zero, List.set_cons_succ]
    rfl
  refine pure_ (i := 4) (N := some 34) (v := ?_) (a' := ?_) #[true, true, false, false, true, false, false, false, false, false, false, false] rfl rfl (any_of HT_.out (by kernel_rfl)) (fun _ _ _ h => h) (Or.inl ⟨by rfl, ?_⟩) ?_ ?_
  rotate_left
  · intro w'
    go_simp
    with_reducible rfl
  rotate_left
  · simp only [Act.put, List.setIfInBounds_toArray, List.set_cons_zero, List.set_cons_succ]
    rfl
  refine pure_ (i := 5) (N := some 35) (v := ?_) (a' := ?_) #[true, true, false, false, true, true, false, false, false, false, false, false] rfl rfl (any_of HT_.out (by kernel_rfl)) (fun _ _ _ h => h) (Or.inl ⟨by rfl, ?_⟩) ?_ ?_
  rotate_left
  · intro w'
    go_simp
    with_reducible rfl
  rotate_left
  · simp only [Act.put, List.setIfInBounds_toArray, List.set_cons_zero, List.set_cons_succ]
    rfl
  refine take_ (i := 2) (N := some 32) (v := ?_) (a' := ?_) #[true, true, true, false, true, true, false, false, false, false, false, false] rfl rfl (take_ofW HT_.out HW_.out (by kernel_rfl)) (fun _ _ _ h => h) (Or.inl ⟨by rfl, ?_⟩) hHeld ?_ ?_
  rotate_left
  · intro w' hkt
    have s0 := HCL.out w' hkt 0 (by omega)
    have s1 := HCL.out w' hkt 1 (by omega)
    rw [Nat.add_zero, HN.out] at s0
    rw [HM.out] at s1
    go_simp
    with_reducible rfl
  rotate_left
  · simp only [Act.put, List.setIfInBounds_toArray, List.set_cons_zero, List.set_cons_succ]
    rfl
  refine pure_ (i := 3) (N := some 33) (v := ?_) (a' := ?_) #[true, true, true, true, true, true, false, false, false, false, false, false] rfl rfl (any_of HT_.out (by kernel_rfl)) (fun _ _ _ h => h) (Or.inl ⟨by rfl, ?_⟩) ?_ ?_
  rotate_left
  · intro w'
    go_simp
    with_reducible rfl
  rotate_left
  · simp only [Act.put, List.setIfInBounds_toArray, List.set_cons_zero, List.set_cons_succ]
    rfl
  refine pure_ (i := 10) (N := some 5) (v := ?_) (a' := ?_) #[true, true, true, true, true, true, false, false, false, false, true, false] rfl rfl (any_of HT_.out (by kernel_rfl)) (fun _ _ _ h => h) (Or.inl ⟨by rfl, ?_⟩) ?_ ?_
  rotate_left
  · intro w'
    go_simp
    with_reducible rfl
  rotate_left
  · simp only [Act.put, List.setIfInBounds_toArray, List.set_cons_zero, List.set_cons_succ]
    rfl
  refine take_ (i := 6) (N := some 36) (v := ?_) (a' := ?_) #[true, true, true, true, true, true, true, false, false, false, true, false] rfl rfl (take_ofW HT_.out HW_.out (by kernel_rfl)) (fun _ _ _ h => h) (Or.inl ⟨by rfl, ?_⟩) hHeld ?_ ?_
  rotate_left
  · intro w' hkt
    have s0 := HCL.out w' hkt 0 (by omega)
    have s1 := HCL.out w' hkt 1 (by omega)
    rw [Nat.add_zero, HN.out] at s0
    rw [HM.out] at s1
    go_simp
    with_reducible rfl
  rotate_left
  · simp only [Act.put, List.setIfInBounds_toArray, List.set_cons_zero, List.set_cons_succ]
    rfl
  refine pure_ (i := 7) (N := some 37) (v := ?_) (a' := ?_) #[true, true, true, true, true, true, true, true, false, false, true, false] rfl rfl (any_of HT_.out (by kernel_rfl)) (fun _ _ _ h => h) (Or.inl ⟨by rfl, ?_⟩) ?_ ?_
  rotate_left
  · intro w'
    go_simp
    with_reducible rfl
  rotate_left
  · simp only [Act.put, List.setIfInBounds_toArray, List.set_cons_zero, List.set_cons_succ]
    rfl
  refine pure_ (i := 8) (N := some 38) (v := ?_) (a' := ?_) #[true, true, true, true, true, true, true, true, true, false, true, false] rfl rfl (any_of HT_.out (by kernel_rfl)) (fun _ _ _ h => h) (Or.inl ⟨by rfl, ?_⟩) ?_ ?_
  rotate_left
  · intro w'
    go_simp
    with_reducible rfl
  rotate_left
  · simp only [Act.put, List.setIfInBounds_toArray, List.set_cons_zero, List.set_cons_succ]
    rfl
  refine pure_ (i := 9) (N := some 39) (v := ?_) (a' := ?_) #[true, true, true, true, true, true, true, true, true, true, true, false] rfl rfl (any_of HT_.out (by kernel_rfl)) (fun _ _ _ h => h) (Or.inl ⟨by rfl, ?_⟩) ?_ ?_
  rotate_left
  · intro w'
    go_simp
    with_reducible rfl
  rotate_left
  · simp only [Act.put, List.setIfInBounds_toArray, List.set_cons_zero, List.set_cons_succ]
    rfl
  refine pure_ (i := 11) (N := some 6) (v := ?_) (a' := ?_) #[true, true, true, true, true, true, true, true, true, true, true, true] rfl rfl (any_of HT_.out (by kernel_rfl)) (fun _ _ _ h => h) (Or.inl ⟨by rfl, ?_⟩) ?_ ?_
  rotate_left
  · intro w'
    go_simp
    with_reducible rfl
  rotate_left
  · simp only [Act.put, List.setIfInBounds_toArray, List.set_cons_zero, List.set_cons_succ]
    rfl
  refine done_ (done_of HT_.out (by kernel_rfl)) ?_
  go_wp2_with fail
  have HWD := Lib.hid hHeld
  clear hHeld s00 s01 w1 w2 wn wm e0 e1 e8
  go_loopw [7, 8] (fun vl vat wr => ∃ t : Nat, t ≤ m ∧ vat = .int .i64 ((2 + 5 * t : Nat) : Int) ∧ Hid (∀ s, s < t → okLim n (limAt b s) = true) ∧ Hid (wr.ownsRow w.heap.size 100 3 vl t (limRow (limsOf b t))) ∧ Hid (New w wr))
    (fun _ vat _ => 2 + 5 * m - (intOf vat).toNat)
  case atStart => exact ⟨0, Nat.zero_le _, by go_num, fun s hs => absurd hs (Nat.not_lt_zero _), World.ownsRow_nil _ _ _ _, HWD.out⟩
  case round =>
    obtain ⟨t, ht, rfl, HOK, HOW, HNW⟩ := hrel
    obtain ⟨p, hp⟩ : ∃ p, 2 + 5 * t = p := ⟨_, rfl⟩
    rw [hp]
    by_cases htm : t < m
    · have hpe : (p : Int) < 2 + 5 * (m : Int) := by omega
      have p1 : (p : Int) + 5 ≤ (c : Int) := by omega
      have p2 : (0 : Int) ≤ (p : Int) := by omega
      have p3 : (p : Int) ≤ (p : Int) + 5 := by omega
      have p4 : IntKind.i64.wrap ((p : Int) + 5) = (p : Int) + 5 := by rw [IntKind.wrap_i64]; omega
      have p5 : p + 5 - p = 5 := by omega
      obtain ⟨x0, hx0⟩ : ∃ x, gt b (2 + 5 * t) = x := ⟨_, rfl⟩
      obtain ⟨x1, hx1⟩ : ∃ x, gt b (2 + 5 * t + 1) = x := ⟨_, rfl⟩
      obtain ⟨x2, hx2⟩ : ∃ x, gt b (2 + 5 * t + 2) = x := ⟨_, rfl⟩
      obtain ⟨x3, hx3⟩ : ∃ x, gt b (2 + 5 * t + 3) = x := ⟨_, rfl⟩
      obtain ⟨x4, hx4⟩ : ∃ x, gt b (2 + 5 * t + 4) = x := ⟨_, rfl⟩
      have HQ0 : Hid (∀ W, New w W → W.cell? ⟨a, off + p, none⟩ = some (.int .u8 x0)) := fun W hW => by
        have h1 := HCL.out W hW (2 + 5 * t) (by omega); rw [hx0, hp] at h1; exact h1
      have HQ1 : Hid (∀ W, New w W → W.cell? ⟨a, off + p + 1, none⟩ = some (.int .u8 x1)) := fun W hW => by
        have h1 := HCL.out W hW (2 + 5 * t + 1) (by omega); rw [hx1, hp, ← Nat.add_assoc] at h1; exact h1
      have HQ2 : Hid (∀ W, New w W → W.cell? ⟨a, off + p + 2, none⟩ = some (.int .u8 x2)) := fun W hW => by
        have h1 := HCL.out W hW (2 + 5 * t + 2) (by omega); rw [hx2, hp, ← Nat.add_assoc] at h1; exact h1
      have HQ3 : Hid (∀ W, New w W → W.cell? ⟨a, off + p + 3, none⟩ = some (.int .u8 x3)) := fun W hW => by
        have h1 := HCL.out W hW (2 + 5 * t + 3) (by omega); rw [hx3, hp, ← Nat.add_assoc] at h1; exact h1
      have HQ4 : Hid (∀ W, New w W → W.cell? ⟨a, off + p + 4, none⟩ = some (.int .u8 x4)) := fun W hW => by
        have h1 := HCL.out W hW (2 + 5 * t + 4) (by omega); rw [hx4, hp, ← Nat.add_assoc] at h1; exact h1
      have HLIM : Hid (limAt b t = ⟨x0 / 16, x0 % 16, x1 * 16777216 + x2 * 65536 + x3 * 256 + x4 - 2147483648⟩) := by show _ = _; unfold limAt; rw [hx0, hx1, hx2, hx3, hx4]
      obtain ⟨a0, b0⟩ := hx0 ▸ HGB.out (2 + 5 * t)
      obtain ⟨a1, b1⟩ := hx1 ▸ HGB.out (2 + 5 * t + 1)
      obtain ⟨a2, b2⟩ := hx2 ▸ HGB.out (2 + 5 * t + 2)
      obtain ⟨a3, b3⟩ := hx3 ▸ HGB.out (2 + 5 * t + 3)
      obtain ⟨a4, b4⟩ := hx4 ▸ HGB.out (2 + 5 * t + 4)
      clear hx0 hx1 hx2 hx3 hx4
      have hor := or_bytes x1 x2 x3 x4 ⟨a1, b1⟩ ⟨a2, b2⟩ ⟨a3, b3⟩ ⟨a4, b4⟩
      obtain ⟨u, hu⟩ : ∃ u, x1 * 16777216 + x2 * 65536 + x3 * 256 + x4 = u := ⟨_, rfl⟩
      rw [hu] at hor HLIM
      have u0 : 0 ≤ u := by omega
      have u1 : u ≤ 4294967295 := by omega
      have hu : Hid (x1 * 16777216 + x2 * 65536 + x3 * 256 + x4 = u) := hu
      have v1 : IntKind.u32.wrap x1 = x1 := by rw [IntKind.wrap_u32]; omega
      have v2 : IntKind.u32.wrap x2 = x2 := by rw [IntKind.wrap_u32]; omega
      have v3 : IntKind.u32.wrap x3 = x3 := by rw [IntKind.wrap_u32]; omega
      have v4 : IntKind.u32.wrap x4 = x4 := by rw [IntKind.wrap_u32]; omega
      have v5 : IntKind.u32.wrap (x1 * 16777216) = x1 * 16777216 := by rw [IntKind.wrap_u32]; omega
      have v6 : IntKind.u32.wrap (x2 * 65536) = x2 * 65536 := by rw [IntKind.wrap_u32]; omega
      have v7 : IntKind.u32.wrap (x3 * 256) = x3 * 256 := by rw [IntKind.wrap_u32]; omega
      have hxo := xor_top u
      obtain ⟨y, hy⟩ : ∃ y, (u + 2147483648) % 4294967296 = y := ⟨_, rfl⟩
      have hwi : IntKind.i32.wrap y = u - 2147483648 := by rw [← hy, IntKind.wrap_i32]; omega
      rw [hy] at hxo
      obtain ⟨xb, hxb⟩ : ∃ xb, u - 2147483648 = xb := ⟨_, rfl⟩
      rw [hxb] at hwi HLIM
      have hand := and15 x0
      have q1 : 0 ≤ x0 / 16 := by omega
      have q2 : x0 / 16 ≤ 15 := by omega
      have q3 : 0 ≤ x0 % 16 := by omega
      have q4 : x0 % 16 ≤ 15 := by omega
      have q5 : IntKind.i64.wrap (x0 / 16) = x0 / 16 := by rw [IntKind.wrap_i64]; omega
      have q6 : IntKind.i64.wrap (x0 % 16) = x0 % 16 := by rw [IntKind.wrap_i64]; omega
      have r1 : -2147483648 ≤ xb := by omega
      have r2 : xb ≤ 2147483647 := by omega
      clear hy hxb
      go_upto_region 13 with fail
      refine start_ (n := 23) (S := fun W => New wr W) (ds := []) #[false, false, false, false, false, false, false, false, false, false, false, false, false, false, false, false, false, false, false, false, false, false, false] (by kernel_rfl) rfl rfl (New.refl wr).drew (fun hHeld => ?_); refine with_tabW r76bTab r76bBits (fun HT_ HW_ => ?_)
      generalize wr.drew = wd at hHeld ⊢
      refine pure_ (i := 0) (N := some 60) (v := ?_) (a' := ?_) #[true, false, false, false, false, false, false, false, false, false, false, false, false, false, false, false, false, false, false, false, false, false, false] rfl rfl (any_of HT_.out (by kernel_rfl)) (fun _ _ _ h => h) (Or.inl ⟨by rfl, ?_⟩) ?_ ?_
      rotate_left
      · intro w'
        go_simp
        with_reducible rfl
      rotate_left
      · simp only [Act.put, List.setIfInBounds_toArray, List.set_cons_zero, List.set_cons_succ]
        rfl
      refine pure_ (i := 1) (N := some 61) (v := ?_) (a' := ?_) #[true, true, false, false, false, false, false, false, false, false, false, false, false, false, false, false, false, false, false, false, false, false, false] rfl rfl (any_of HT_.out (by kernel_rfl)) (fun _ _ _ h => h) (Or.inl ⟨by rfl, ?_⟩) ?_ ?_
      rotate_left
      · intro w'
        go_simp
        with_reducible rfl
      rotate_left
      · simp only [Act.put, List.setIfInBounds_toArray, List.set_cons_zero, List.set_cons_succ]
        rfl
      refine pure_ (i := 5) (N := some 65) (v := ?_) (a' := ?_) #[true, true, false, false, false, true, false, false, false, false, false, false, false, false, false, false, false, false, false, false, false, false, false] rfl rfl (any_of HT_.out (by kernel_rfl)) (fun _ _ _ h => h) (Or.inl ⟨by rfl, ?_⟩) ?_ ?_
      rotate_left
      · intro w'
        go_simp
        with_reducible rfl
      rotate_left
      · simp only [Act.put, List.setIfInBounds_toArray, List.set_cons_zero, List.set_cons_succ]
        rfl
      refine pure_ (i := 6) (N := some 66) (v := ?_) (a' := ?_) #[true, true, false, false, false, true, true, false, false, false, false, false, false, false, false, false, false, false, false, false, false, false, false] rfl rfl (any_of HT_.out (by kernel_rfl)) (fun _ _ _ h => h) (Or.inl ⟨by rfl, ?_⟩) ?_ ?_
      rotate_left
      · intro w'
        go_simp
        with_reducible rfl
      rotate_left
      · simp only [Act.put, List.setIfInBounds_toArray, List.set_cons_zero, List.set_cons_succ]
        rfl
      refine pure_ (i := 11) (N := some 71) (v := ?_) (a' := ?_) #[true, true, false, false, false, true, true, false, false, false, false, true, false, false, false, false, false, false, false, false, false, false, false] rfl rfl (any_of HT_.out (by kernel_rfl)) (fun _ _ _ h => h) (Or.inl ⟨by rfl, ?_⟩) ?_ ?_
      rotate_left
      · intro w'
        go_simp
        with_reducible rfl
      rotate_left
      · simp only [Act.put, List.setIfInBounds_toArray, List.set_cons_zero, List.set_cons_succ]
        rfl
      refine pure_ (i := 12) (N := some 72) (v := ?_) (a' := ?_) #[true, true, false, false, false, true, true, false, false, false, false, true, true, false, false, false, false, false, false, false, false, false, false] rfl rfl (any_of HT_.out (by kernel_rfl)) (fun _ _ _ h => h) (Or.inl ⟨by rfl, ?_⟩) ?_ ?_
      rotate_left
      · intro w'
        go_simp
        with_reducible rfl
      rotate_left
      · simp only [Act.put, List.setIfInBounds_toArray, List.set_cons_zero, List.set_cons_succ]
        rfl
      refine pure_ (i := 17) (N := some 77) (v := ?_) (a' := ?_) #[true, true, false, false, false, true, true, false, false, false, false, true, true, false, false, false, false, true, false, false, false, false, false] rfl rfl (any_of HT_.out (by kernel_rfl)) (fun _ _ _ h => h) (Or.inl ⟨by rfl, ?_⟩) ?_ ?_
      rotate_left
      · intro w'
        go_simp
        with_reducible rfl
      rotate_left
      · simp only [Act.put, List.setIfInBounds_toArray, List.set_cons_zero, List.set_cons_succ]
        rfl
      refine pure_ (i := 18) (N := some 78) (v := ?_) (a' := ?_) #[true, true, false, false, false, true, true, false, false, false, false, true, true, false, false, false, false, true, true, false, false, false, false] rfl rfl (any_of HT_.out (by kernel_rfl)) (fun _ _ _ h => h) (Or.inl ⟨by rfl, ?_⟩) ?_ ?_
      rotate_left
      · intro w'
        go_simp
        with_reducible rfl
      rotate_left
      · simp only [Act.put, List.setIfInBounds_toArray, List.set_cons_zero, List.set_cons_succ]
        rfl
      refine take_ (i := 2) (N := some 62) (v := ?_) (a' := ?_) #[true, true, true, false, false, true, true, false, false, false, false, true, true, false, false, false, false, true, true, false, false, false, false] rfl rfl (take_ofW HT_.out HW_.out (by kernel_rfl)) (fun _ _ _ h => h) (Or.inl ⟨by rfl, ?_⟩) hHeld ?_ ?_
      rotate_left
      · intro w' hkt
        have s1 := HQ1.out w' (HNW.out.trans hkt)
        have s2 := HQ2.out w' (HNW.out.trans hkt)
        have s3 := HQ3.out w' (HNW.out.trans hkt)
        have s4 := HQ4.out w' (HNW.out.trans hkt)
        go_simp
        with_reducible rfl
      rotate_left
      · simp only [Act.put, List.setIfInBounds_toArray, List.set_cons_zero, List.set_cons_succ]
        rfl
      refine pure_ (i := 3) (N := some 63) (v := ?_) (a' := ?_) #[true, true, true, true, false, true, true, false, false, false, false, true, true, false, false, false, false, true, true, false, false, false, false] rfl rfl (any_of HT_.out (by kernel_rfl)) (fun _ _ _ h => h) (Or.inl ⟨by rfl, ?_⟩) ?_ ?_
      rotate_left
      · intro w'
        go_simp
        with_reducible rfl
      rotate_left
      · simp only [Act.put, List.setIfInBounds_toArray, List.set_cons_zero, List.set_cons_succ]
        rfl
      refine pure_ (i := 4) (N := some 64) (v := ?_) (a' := ?_) #[true, true, true, true, true, true, true, false, false, false, false, true, true, false, false, false, false, true, true, false, false, false, false] rfl rfl (any_of HT_.out (by kernel_rfl)) (fun _ _ _ h => h) (Or.inl ⟨by rfl, ?_⟩) ?_ ?_
      rotate_left
      · intro w'
        go_simp
        with_reducible rfl
      rotate_left
      · simp only [Act.put, List.setIfInBounds_toArray, List.set_cons_zero, List.set_cons_succ]
        rfl
      refine take_ (i := 7) (N := some 67) (v := ?_) (a' := ?_) #[true, true, true, true, true, true, true, true, false, false, false, true, true, false, false, false, false, true, true, false, false, false, false] rfl rfl (take_ofW HT_.out HW_.out (by kernel_rfl)) (fun _ _ _ h => h) (Or.inl ⟨by rfl, ?_⟩) hHeld ?_ ?_
      rotate_left
      · intro w' hkt
        have s1 := HQ1.out w' (HNW.out.trans hkt)
        have s2 := HQ2.out w' (HNW.out.trans hkt)
        have s3 := HQ3.out w' (HNW.out.trans hkt)
        have s4 := HQ4.out w' (HNW.out.trans hkt)
        go_simp
        with_reducible rfl
      rotate_left
      · simp only [Act.put, List.setIfInBounds_toArray, List.set_cons_zero, List.set_cons_succ]
        rfl
      refine pure_ (i := 8) (N := some 68) (v := ?_) (a' := ?_) #[true, true, true, true, true, true, true, true, true, false, false, true, true, false, false, false, false, true, true, false, false, false, false] rfl rfl (any_of HT_.out (by kernel_rfl)) (fun _ _ _ h => h) (Or.inl ⟨by rfl, ?_⟩) ?_ ?_
      rotate_left
      · intro w'
        go_simp
        with_reducible rfl
      rotate_left
      · simp only [Act.put, List.setIfInBounds_toArray, List.set_cons_zero, List.set_cons_succ]
        rfl
      refine pure_ (i := 9) (N := some 69) (v := ?_) (a' := ?_) #[true, true, true, true, true, true, true, true, true, true, false, true, true, false, false, false, false, true, true, false, false, false, false] rfl rfl (any_of HT_.out (by kernel_rfl)) (fun _ _ _ h => h) (Or.inl ⟨by rfl, ?_⟩) ?_ ?_
      rotate_left
      · intro w'
        go_simp
        with_reducible rfl
      rotate_left
      · simp only [Act.put, List.setIfInBounds_toArray, List.set_cons_zero, List.set_cons_succ]
        rfl
      refine pure_ (i := 10) (N := some 70) (v := ?_) (a' := ?_) #[true, true, true, true, true, true, true, true, true, true, true, true, true, false, false, false, false, true, true, false, false, false, false] rfl rfl (any_of HT_.out (by kernel_rfl)) (fun _ _ _ h => h) (Or.inl ⟨by rfl, ?_⟩) ?_ ?_
      rotate_left
      · intro w'
        go_simp
        with_reducible rfl
      rotate_left
      · simp only [Act.put, List.setIfInBounds_toArray, List.set_cons_zero, List.set_cons_succ]
        rfl
      refine take_ (i := 13) (N := some 73) (v := ?_) (a' := ?_) #[true, true, true, true, true, true, true, true, true, true, true, true, true, true, false, false, false, true, true, false, false, false, false] rfl rfl (take_ofW HT_.out HW_.out (by kernel_rfl)) (fun _ _ _ h => h) (Or.inl ⟨by rfl, ?_⟩) hHeld ?_ ?_
      rotate_left
      · intro w' hkt
        have s1 := HQ1.out w' (HNW.out.trans hkt)
        have s2 := HQ2.out w' (HNW.out.trans hkt)
        have s3 := HQ3.out w' (HNW.out.trans hkt)
        have s4 := HQ4.out w' (HNW.out.trans hkt)
        go_simp
        with_reducible rfl
      rotate_left
      · simp only [Act.put, List.setIfInBounds_toArray, List.set_cons_zero, List.set_cons_succ]
        rfl
      refine pure_ (i := 14) (N := some 74) (v := ?_) (a' := ?_) #[true, true, true, true, true, true, true, true, true, true, true, true, true, true, true, false, false, true, true, false, false, false, false] rfl rfl (any_of HT_.out (by kernel_rfl)) (fun _ _ _ h => h) (Or.inl ⟨by rfl, ?_⟩) ?_ ?_
      rotate_left
      · intro w'
        go_simp
        with_reducible rfl
      rotate_left
      · simp only [Act.put, List.setIfInBounds_toArray, List.set_cons_zero, List.set_cons_succ]
        rfl
      refine pure_ (i := 15) (N := some 75) (v := ?_) (a' := ?_) #[true, true, true, true, true, true, true, true, true, true, true, true, true, true, true, true, false, true, true, false, false, false, false] rfl rfl (any_of HT_.out (by kernel_rfl)) (fun _ _ _ h => h) (Or.inl ⟨by rfl, ?_⟩) ?_ ?_
      rotate_left
      · intro w'
        go_simp
        with_reducible rfl
      rotate_left
      · simp only [Act.put, List.setIfInBounds_toArray, List.set_cons_zero, List.set_cons_succ]
        rfl
      refine pure_ (i := 16) (N := some 76) (v := ?_) (a' := ?_) #[true, true, true, true, true, true, true, true, true, true, true, true, true, true, true, true, true, true, true, false, false, false, false] rfl rfl (any_of HT_.out (by kernel_rfl)) (fun _ _ _ h => h) (Or.inl ⟨by rfl, ?_⟩) ?_ ?_
      rotate_left
      · intro w'
        go_simp
        with_reducible rfl
      rotate_left
      · simp only [Act.put, List.setIfInBounds_toArray, List.set_cons_zero, List.set_cons_succ]
        rfl
      refine take_ (i := 19) (N := some 79) (v := ?_) (a' := ?_) #[true, true, true, true, true, true, true, true, true, true, true, true, true, true, true, true, true, true, true, true, false, false, false] rfl rfl (take_ofW HT_.out HW_.out (by kernel_rfl)) (fun _ _ _ h => h) (Or.inl ⟨by rfl, ?_⟩) hHeld ?_ ?_
      rotate_left
      · intro w' hkt
        have s1 := HQ1.out w' (HNW.out.trans hkt)
        have s2 := HQ2.out w' (HNW.out.trans hkt)
        have s3 := HQ3.out w' (HNW.out.trans hkt)
        have s4 := HQ4.out w' (HNW.out.trans hkt)
        go_simp
        with_reducible rfl
      rotate_left
      · simp only [Act.put, List.setIfInBounds_toArray, List.set_cons_zero, List.set_cons_succ]
        rfl
      refine pure_ (i := 20) (N := some 80) (v := ?_) (a' := ?_) #[true, true, true, true, true, true, true, true, true, true, true, true, true, true, true, true, true, true, true, true, true, false, false] rfl rfl (any_of HT_.out (by kernel_rfl)) (fun _ _ _ h => h) (Or.inl ⟨by rfl, ?_⟩) ?_ ?_
      rotate_left
      · intro w'
        go_simp
        with_reducible rfl
      rotate_left
      · simp only [Act.put, List.setIfInBounds_toArray, List.set_cons_zero, List.set_cons_succ]
        rfl
      refine pure_ (i := 21) (N := some 81) (v := ?_) (a' := ?_) #[true, true, true, true, true, true, true, true, true, true, true, true, true, true, true, true, true, true, true, true, true, true, false] rfl rfl (any_of HT_.out (by kernel_rfl)) (fun _ _ _ h => h) (Or.inl ⟨by rfl, ?_⟩) ?_ ?_
      rotate_left
      · intro w'
        go_simp
        with_reducible rfl
      rotate_left
      · simp only [Act.put, List.setIfInBounds_toArray, List.set_cons_zero, List.set_cons_succ]
        rfl
      refine pure_ (i := 22) (N := some 10) (v := ?_) (a' := ?_) #[true, true, true, true, true, true, true, true, true, true, true, true, true, true, true, true, true, true, true, true, true, true, true] rfl rfl (any_of HT_.out (by kernel_rfl)) (fun _ _ _ h => h) (Or.inl ⟨by rfl, ?_⟩) ?_ ?_
      rotate_left
      · intro w'
        go_simp
        with_reducible rfl
      rotate_left
      · simp only [Act.put, List.setIfInBounds_toArray, List.set_cons_zero, List.set_cons_succ]
        rfl
      refine done_ (done_of HT_.out (by kernel_rfl)) ?_
      have HN2 := Lib.hid (HNW.out.trans hHeld)
      have HOW2 := Lib.hid (own_new HOW.out hHeld)
      clear v1 v2 v3 v4 v5 v6 v7 hor hHeld
      go_upto_region 14 with fail
      refine start_ (n := 16) (S := fun W => New wd W) (ds := []) #[false, false, false, false, false, false, false, false, false, false, false, false, false, false, false, false] (by kernel_rfl) rfl rfl (New.refl wd).drew (fun hHeld => ?_); refine with_tabW r76cTab r76cBits (fun HT_ HW_ => ?_)
      generalize wd.drew = w3 at hHeld ⊢
      refine pure_ (i := 0) (N := some 82) (v := ?_) (a' := ?_) #[true, false, false, false, false, false, false, false, false, false, false, false, false, false, false, false] rfl rfl (any_of HT_.out (by kernel_rfl)) (fun _ _ _ h => h) (Or.inl ⟨by rfl, ?_⟩) ?_ ?_
      rotate_left
      · intro w'
        go_simp
        with_reducible rfl
      rotate_left
      · simp only [Act.put, List.setIfInBounds_toArray, List.set_cons_zero, List.set_cons_succ]
        rfl
      refine pure_ (i := 1) (N := some 83) (v := ?_) (a' := ?_) #[true, true, false, false, false, false, false, false, false, false, false, false, false, false, false, false] rfl rfl (any_of HT_.out (by kernel_rfl)) (fun _ _ _ h => h) (Or.inl ⟨by rfl, ?_⟩) ?_ ?_
      rotate_left
      · intro w'
        go_simp
        with_reducible rfl
      rotate_left
      · simp only [Act.put, List.setIfInBounds_toArray, List.set_cons_zero, List.set_cons_succ]
        rfl
      refine pure_ (i := 5) (N := some 87) (v := ?_) (a' := ?_) #[true, true, false, false, false, true, false, false, false, false, false, false, false, false, false, false] rfl rfl (any_of HT_.out (by kernel_rfl)) (fun _ _ _ h => h) (Or.inl ⟨by rfl, ?_⟩) ?_ ?_
      rotate_left
      · intro w'
        go_simp
        with_reducible rfl
      rotate_left
      · simp only [Act.put, List.setIfInBounds_toArray, List.set_cons_zero, List.set_cons_succ]
        rfl
      refine pure_ (i := 6) (N := some 88) (v := ?_) (a' := ?_) #[true, true, false, false, false, true, true, false, false, false, false, false, false, false, false, false] rfl rfl (any_of HT_.out (by kernel_rfl)) (fun _ _ _ h => h) (Or.inl ⟨by rfl, ?_⟩) ?_ ?_
      rotate_left
      · intro w'
        go_simp
        with_reducible rfl
      rotate_left
      · simp only [Act.put, List.setIfInBounds_toArray, List.set_cons_zero, List.set_cons_succ]
        rfl
      refine pure_ (i := 10) (N := some 92) (v := ?_) (a' := ?_) #[true, true, false, false, false, true, true, false, false, false, true, false, false, false, false, false] rfl rfl (any_of HT_.out (by kernel_rfl)) (fun _ _ _ h => h) (Or.inl ⟨by rfl, ?_⟩) ?_ ?_
      rotate_left
      · intro w'
        go_simp
        with_reducible rfl
      rotate_left
      · simp only [Act.put, List.setIfInBounds_toArray, List.set_cons_zero, List.set_cons_succ]
        rfl
      refine pure_ (i := 11) (N := some 93) (v := ?_) (a' := ?_) #[true, true, false, false, false, true, true, false, false, false, true, true, false, false, false, false] rfl rfl (any_of HT_.out (by kernel_rfl)) (fun _ _ _ h => h) (Or.inl ⟨by rfl, ?_⟩) ?_ ?_
      rotate_left
      · intro w'
        go_simp
        with_reducible rfl
      rotate_left
      · simp only [Act.put, List.setIfInBounds_toArray, List.set_cons_zero, List.set_cons_succ]
        rfl
      refine pure_ (i := 12) (N := some 94) (v := ?_) (a' := ?_) #[true, true, false, false, false, true, true, false, false, false, true, true, true, false, false, false] rfl rfl (any_of HT_.out (by kernel_rfl)) (fun _ _ _ h => h) (Or.inl ⟨by rfl, ?_⟩) ?_ ?_
      rotate_left
      · intro w'
        go_simp
        with_reducible rfl
      rotate_left
      · simp only [Act.put, List.setIfInBounds_toArray, List.set_cons_zero, List.set_cons_succ]
        rfl
      refine take_ (i := 2) (N := some 84) (v := ?_) (a' := ?_) #[true, true, true, false, false, true, true, false, false, false, true, true, true, false, false, false] rfl rfl (take_ofW HT_.out HW_.out (by kernel_rfl)) (fun _ _ _ h => h) (Or.inl ⟨by rfl, ?_⟩) hHeld ?_ ?_
      rotate_left
      · intro w' hkt
        have s0 := HQ0.out w' (HN2.out.trans hkt)
        go_simp
        with_reducible rfl
      rotate_left
      · simp only [Act.put, List.setIfInBounds_toArray, List.set_cons_zero, List.set_cons_succ]
        rfl
      refine pure_ (i := 3) (N := some 85) (v := ?_) (a' := ?_) #[true, true, true, true, false, true, true, false, false, false, true, true, true, false, false, false] rfl rfl (any_of HT_.out (by kernel_rfl)) (fun _ _ _ h => h) (Or.inl ⟨by rfl, ?_⟩) ?_ ?_
      rotate_left
      · intro w'
        go_simp
        with_reducible rfl
      rotate_left
      · simp only [Act.put, List.setIfInBounds_toArray, List.set_cons_zero, List.set_cons_succ]
        rfl
      refine pure_ (i := 4) (N := some 86) (v := ?_) (a' := ?_) #[true, true, true, true, true, true, true, false, false, false, true, true, true, false, false, false] rfl rfl (any_of HT_.out (by kernel_rfl)) (fun _ _ _ h => h) (Or.inl ⟨by rfl, ?_⟩) ?_ ?_
      rotate_left
      · intro w'
        go_simp
        with_reducible rfl
      rotate_left
      · simp only [Act.put, List.setIfInBounds_toArray, List.set_cons_zero, List.set_cons_succ]
        rfl
      refine take_ (i := 7) (N := some 89) (v := ?_) (a' := ?_) #[true, true, true, true, true, true, true, true, false, false, true, true, true, false, false, false] rfl rfl (take_ofW HT_.out HW_.out (by kernel_rfl)) (fun _ _ _ h => h) (Or.inl ⟨by rfl, ?_⟩) hHeld ?_ ?_
      rotate_left
      · intro w' hkt
        have s0 := HQ0.out w' (HN2.out.trans hkt)
        go_simp
        with_reducible rfl
      rotate_left
      · simp only [Act.put, List.setIfInBounds_toArray, List.set_cons_zero, List.set_cons_succ]
        rfl
      refine pure_ (i := 8) (N := some 90) (v := ?_) (a' := ?_) #[true, true, true, true, true, true, true, true, true, false, true, true, true, false, false, false] rfl rfl (any_of HT_.out (by kernel_rfl)) (fun _ _ _ h => h) (Or.inl ⟨by rfl, ?_⟩) ?_ ?_
      rotate_left
      · intro w'
        go_simp
        with_reducible rfl
      rotate_left
      · simp only [Act.put, List.setIfInBounds_toArray, List.set_cons_zero, List.set_cons_succ]
        rfl
      refine pure_ (i := 9) (N := some 91) (v := ?_) (a' := ?_) #[true, true, true, true, true, true, true, true, true, true, true, true, true, false, false, false] rfl rfl (any_of HT_.out (by kernel_rfl)) (fun _ _ _ h => h) (Or.inl ⟨by rfl, ?_⟩) ?_ ?_
      rotate_left
      · intro w'
        go_simp
        with_reducible rfl
      rotate_left
      · simp only [Act.put, List.setIfInBounds_toArray, List.set_cons_zero, List.set_cons_succ]
        rfl
      refine pure_ (i := 13) (N := some 95) (v := ?_) (a' := ?_) #[true, true, true, true, true, true, true, true, true, true, true, true, true, true, false, false] rfl rfl (any_of HT_.out (by kernel_rfl)) (fun _ _ _ h => h) (Or.inl ⟨by rfl, ?_⟩) ?_ ?_
      rotate_left
      · intro w'
        go_simp
        with_reducible rfl
      rotate_left
      · simp only [Act.put, List.setIfInBounds_toArray, List.set_cons_zero, List.set_cons_succ]
        rfl
      have hHeld0 := hHeld
      refine one_ (i := 14) (N := some 11) #[true, true, true, true, true, true, true, true, true, true, true, true, true, true, true, false] rfl rfl (one_of HT_.out (by kernel_rfl)) (by decide) (fun K hK => ?_)
      refine gives_ (v := .pointer (some ⟨w3.heap.size, 0, none⟩)) (w1 := w3.alloc (.cells #[.int .i64 0, .int .i64 0, .int .i32 0] 100)) (by rfl) rfl (by go_simp) ?_
      refine hK.out _ _ (hHeld.alloc _) (fun hHeld => ?_)
      clear hK K
      refine norm_ (a' := ?_) ?_ ?_
      rotate_left
      · show Act.put _ (some 11) _ = _
        simp only [Act.put, List.setIfInBounds_toArray, List.set_cons_zero, List.set_cons_succ]
        rfl
      refine one_ (i := 15) (N := none) #[true, true, true, true, true, true, true, true, true, true, true, true, true, true, true, true] rfl rfl (one_of HT_.out (by kernel_rfl)) (by decide) (fun K hK => ?_)
      refine skip_ (w1 := w3.alloc (.cells #[.int .i64 (x0 / 16), .int .i64 (x0 % 16), .int .i32 xb] 100)) (by rfl) rfl (by go_simp) ?_
      refine hK.out _ _ (hHeld0.alloc _) (fun hHeld => ?_)
      clear hK K
      refine done_ (done_of HT_.out (by kernel_rfl)) ?_
      clear hand hxo hwi hHeld0 q5 q6
      have hHH := Lib.hid hHeld
      have HR := Lib.hid (right_any xb (w3.alloc (.cells #[.int .i64 (x0 / 16), .int .i64 (x0 % 16), .int .i32 xb] 100)))
      have hbad : okLim n ⟨x0 / 16, x0 % 16, xb⟩ = false → unpackR b = .bad (2 + 5 * t) := fun h => unpackR_at HN.out hn8 HM.out HL.out htm HOK.out (by rw [HLIM.out]; exact h)
      have HBAD := Lib.hid hbad
      clear hbad hHeld
      by_cases c1 : (n : Int) < x0 / 16
      · have HB2 := Lib.hid (HBAD.out (by unfold okLim; simp only; rw [decide_eq_false (by omega)]; rfl))
        clear HBAD
        go_wp2_with fail
        go_ret3
        refine ⟨?_, ((HN2.out.trans hHH.out))⟩
        rw [HB2.out]
        show _ = _
        rw [← hp]
        push_cast
        rfl
      · by_cases c2 : (n : Int) < x0 % 16
        · have HB2 := Lib.hid (HBAD.out (by unfold okLim; simp only; rw [decide_eq_false (show ¬ x0 % 16 ≤ (n : Int) by omega)]; simp))
          clear HBAD
          go_wp2_with fail
          go_ret3
          refine ⟨?_, ((HN2.out.trans hHH.out))⟩
          rw [HB2.out]
          show _ = _
          rw [← hp]
          push_cast
          rfl
        · cases hrb : rightB xb with
          | false =>
            have HB2 := Lib.hid (HBAD.out (by unfold okLim; simp only; rw [hrb]; simp))
            rw [hrb] at HR
            clear HBAD hrb
            go_wp2_with fail
            refine HR.out.mono ?_
            rintro e w' ⟨rfl, rfl⟩
            go_wp2_with fail
            go_ret3
            refine ⟨?_, ((HN2.out.trans hHH.out))⟩
            rw [HB2.out]
            show _ = _
            rw [← hp]
            push_cast
            rfl
          | true =>
            have hok : okLim n (limAt b t) = true := by
              rw [HLIM.out]; unfold okLim; simp only; rw [hrb, decide_eq_true (show x0 / 16 ≤ (n : Int) by omega), decide_eq_true (show x0 % 16 ≤ (n : Int) by omega)]; rfl
            have HOK2 : Hid (∀ s, s < t + 1 → okLim n (limAt b s) = true) := fun s hs => by
              by_cases e : s = t
              · subst e; exact hok
              · exact HOK.out s (by omega)
            rw [hrb] at HR
            clear HBAD hrb hok
            go_wp2_with fail
            refine HR.out.mono ?_
            rintro e w' ⟨rfl, rfl⟩
            obtain ⟨i0, hi0, hz0, hz1, hz2⟩ := info_parts infoOf100
            have hN3 := hHH.out.alloc (.cells #[.int .i64 (x0 / 16), .int .i64 (x0 % 16), .int .i32 xb] 100)
            have HOWN := Lib.hid (own_new HOW2.out hN3)
            have HN3 := Lib.hid (HN2.out.trans hN3)
            have HEL : Hid (Elems ((w3.alloc (.cells #[.int .i64 (x0 / 16), .int .i64 (x0 % 16), .int .i32 xb] 100)).alloc (.cells #[.int .i64 (x0 / 16), .int .i64 (x0 % 16), .int .i32 xb] 100)) (w3.heap.size + 1 + 1) (some ⟨w3.heap.size + 1, 0, none⟩) [.int .i64 (x0 / 16), .int .i64 (x0 % 16), .int .i32 xb]) := by
              have h := elems_news (w3.alloc (.cells #[.int .i64 (x0 / 16), .int .i64 (x0 % 16), .int .i32 xb] 100)) 100 [.int .i64 (x0 / 16), .int .i64 (x0 % 16), .int .i32 xb]
              rw [show (w3.alloc (.cells #[.int .i64 (x0 / 16), .int .i64 (x0 % 16), .int .i32 xb] 100)).heap.size = w3.heap.size + 1 by simp] at h
              exact h
            have HSZ := Lib.hid HN3.out.size
            clear hN3
            go_wp2_with (at_builtin; (refine wpList_append_elems rfl _ _ 113 rfl w.heap.size 100 i0 (.agg #[.int .i64 0, .int .i64 0, .int .i32 0]) 3 24 Try.underlying113 hi0 hz0 hz1 hz2 rfl (by decide) _ t _ (by rfl) HOWN.out _ _ 1 1 _ (by rfl) HEL.out rfl ?c1 ?c2 ?c3 HSZ.out ?_))
            case c1 => intro y hy; simp at hy; rcases hy with rfl | rfl | rfl <;> rfl
            case c2 => unfold maxLen; omega
            case c3 => omega
            intro v' w' ho' hg' hb'
            have hF := Fr.of_grown (S := fun k => Value.ownBlock _ = some k) hg' (fun k hk _ => hk)
            have hN4 : New w w' := Fr.then HN3.out hF (fun _ _ e => e) (fun k hk e => by
              have h1 := (own_row HOWN.out e).1
              omega)
            have HN4 := Lib.hid hN4
            have HO' := Lib.hid ho'
            clear ho' hg' hb' hF hN4
            go_wp2_with fail
            refine ⟨⟨t + 1, by omega, by congr 1; omega, HOK2.out, ?_, HN4.out⟩, by simp [intOf] <;> omega⟩
            show World.ownsRow _ _ _ _ _ _ _
            rw [limsOf_succ, HLIM.out]
            have e : limRow (limsOf b t ++ [⟨x0 / 16, x0 % 16, xb⟩]) = limRow (limsOf b t) ++ [.int .i64 (x0 / 16), .int .i64 (x0 % 16), .int .i32 xb] := by simp [limRow]
            rw [e]
            exact HO'.out
    · have hpe : ¬ (p : Int) < 2 + 5 * (m : Int) := by omega
      have htm2 : t = m := by omega
      subst htm2
      have hlims : (limsOf b t).length = t := by simp [limsOf]
      have HALL := Lib.hid (unpackR_all HN.out hn8 HM.out HL.out HOK.out)
      obtain ⟨Al, cl, hvl⟩ := own_form HOW.out
      subst hvl
      have hbk := back_lims (n : Int) Al cl (limsOf b t) wr (by rw [hlims]; omega) (elems_of_own HOW.out)
      rw [hlims] at hbk
      have HBK := Lib.hid hbk
      clear hbk hlims
      have tzero : (n : Int) = n := rfl
      cases hq : limZ n (limsOf b t) with
      | err k =>
        have hk := limZ_err hq
        have hk0 : k ≠ 0 := by omega
        have hr := HALL.out
        rw [hq] at hr
        have HR := Lib.hid hr
        have HQ := Lib.hid hq
        clear hq hk hr tzero
        go_wp2_with fail
        refine HBK.out.mono ?_
        rintro e w5 ⟨hz, hn5⟩
        rw [HQ.out] at hz
        have hz : e = .returned (.tuple #[.pointer none, .int .i64 k]) := hz
        subst hz
        have HN5 := Lib.hid (HNW.out.trans hn5)
        clear hn5 HBK
        go_wp2_with fail
        go_ret3
        exact ⟨by rw [HR.out]; rfl, HN5.out⟩
      | ok Z =>
        obtain ⟨_, _, L, _, _, _, _, hf⟩ := limZ_ok hq
        have hgd := hf.good hn8
        have HLEN := Lib.hid hf.len
        have hr := HALL.out
        rw [hq] at hr
        have HR := Lib.hid hr
        have HQ := Lib.hid hq
        have HG := Lib.hid hgd
        clear hq hr hf hgd tzero
        go_wp2_with fail
        refine HBK.out.mono ?_
        rintro e w5 ⟨hz, hn5⟩
        rw [HQ.out] at hz
        obtain ⟨g, rfl, hg, hrow⟩ := hz
        have hza : ZoneAt w5 g ⟨n, Z⟩ := ⟨hrow, HLEN.out, hn8⟩
        have HP := Lib.hid (pack_any g ⟨n, Z⟩ w5 hza HG.out)
        have HN5 := Lib.hid (HNW.out.trans hn5)
        have HROW := Lib.hid hrow
        have HGS := Lib.hid (Nat.le_trans HNW.out.size hg)
        clear hn5 HBK hza hrow hg
        go_wp2_with fail
        refine HP.out.mono ?_
        rintro e w6 ⟨vp, rfl, hop, hn6⟩
        obtain ⟨Ap, cp, hvp⟩ := own_form hop
        subst hvp
        have hB : Elems w6 w6.heap.size (some ⟨a, off, none⟩) (b.map (Value.int .u8)) := fun h0 => by
          refine ⟨a, off, rfl, ?_, fun j u hu => ?_⟩
          · exact (spot_of_cell (HCL.out w6 (HN5.out.trans hn6) 0 (by omega))).2
          · have hj := (List.getElem?_eq_some_iff.1 hu).1
            rw [List.length_map] at hj
            have h1 := HCL.out w6 (HN5.out.trans hn6) j (by rw [← HL.out]; exact hj)
            rw [h1]
            rw [List.getElem?_map, List.getElem?_eq_getElem hj] at hu
            unfold gt
            rw [List.getD_eq_getElem?_getD, List.getElem?_eq_getElem hj]
            exact hu
        have hpl : (packB ⟨n, Z⟩).length < 4611686018427387904 := by
          have h1 := packTo_length ⟨n, Z⟩ _ (Nat.le_refl _)
          have h2 := (fewN_small HG.out).1
          unfold packB
          omega
        have hE := equal_bytes_any Ap (some ⟨a, off, none⟩) cp c (packB ⟨n, Z⟩) b w6 (elems_of_own hop) hB hpl
        rw [HL.out, hp] at hE
        have HE := Lib.hid hE
        have HN6 := Lib.hid (HN5.out.trans hn6)
        have HROW6 := Lib.hid (hn6.row HROW.out)
        clear hE hpl hB hop hn6 HP
        go_wp2_with fail
        refine HE.out.mono ?_
        rintro e w7 ⟨rfl, hd7⟩
        have HN7 := Lib.hid (HN6.out.trans hd7.new)
        have HROW7 := Lib.hid (hd7.new.row HROW6.out)
        by_cases hpk : packB ⟨n, Z⟩ = b
        · have hdt : decide (packB ⟨n, Z⟩ = b) = true := decide_eq_true hpk
          rw [hdt]
          have hr := HR.out
          simp only [if_pos hpk] at hr
          have HR2 := Lib.hid hr
          clear hr hdt HR hpk HE
          go_wp2_with fail
          go_ret3
          exact ⟨by rw [HR2.out]; exact ⟨g, rfl, HGS.out, HROW7.out⟩, HN7.out⟩
        · have hdt : decide (packB ⟨n, Z⟩ = b) = false := decide_eq_false hpk
          rw [hdt]
          have hr := HR.out
          simp only [if_neg hpk] at hr
          have HR2 := Lib.hid hr
          clear hr hdt HR hpk HE
          go_wp2_with fail
          go_ret3
          exact ⟨by rw [HR2.out]; rfl, HN7.out⟩
end Go.Proofs.Ytapfihlgemejiaa
