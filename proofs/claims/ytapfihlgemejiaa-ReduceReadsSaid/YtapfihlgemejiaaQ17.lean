/- gnomonref25.Unpack. -/
import Derived.Test.YtapfihlgemejiaaQ13
import Derived.Test.YtapfihlgemejiaaQ16
import Derived.Test.YtapfihlgemejiaaP8
namespace Go.Proofs.Ytapfihlgemejiaa
open Go.RowKit Go.Proofs.YtapfihlgemejiaaW.PrintLast
def r78T : Bool × List (List Nat × List Nat) := (true, [([], []), ([], []), ([0, 1], [0, 1]), ([2], [2]), ([3], [3]), ([4], [4]), ([], []), ([], []), ([6, 7], [6, 7]), ([8], [8]), ([9], [9]), ([10], [10]), ([], []), ([12], [12]), ([13], [13]), ([5, 11, 14], [5, 11, 14]), ([], []), ([16, 15, 0, 1, 2, 3, 4, 5, 6, 7, 8, 9, 10, 11, 12, 13, 14, 15, 16], [15, 16])])
def r78B : List Nat := [0, 0, 3, 7, 15, 31, 0, 0, 192, 448, 960, 1984, 0, 4096, 12288, 32767, 0, 131071]
theorem r78Tab : rtab .any (opsOf Try.f78 15) = r78T := by kernel_rfl
theorem r78Bits : waitsOk r78T.2 r78B = true := by kernel_rfl
/-- What the document's Unpack answers. -/
def RURet (w : World) (r : UR) (e : Ending) (w' : World) : Prop :=
  match r with
  | .bad a => e = .returned (.tuple #[.pointer none, .int .i64 7, .int .i64 a])
  | .ok n Z => ∃ g, e = .returned (.tuple #[.pointer (some ⟨g, 0, none⟩), .int .i64 0, .int .i64 0]) ∧ w.heap.size ≤ g ∧ RefAt w' g ⟨n, Z⟩
theorem limsOf_range (b : List Int) (hb : ∀ k, 0 ≤ gt b k ∧ gt b k ≤ 255) (m : Nat) : ∀ x ∈ limsOf b m, -2147483648 ≤ x.b ∧ x.b ≤ 2147483647 := fun x hx => by
  unfold limsOf at hx
  obtain ⟨t, _, rfl⟩ := List.mem_map.1 hx
  unfold limAt
  have h1 := hb (2 + 5 * t + 1)
  have h2 := hb (2 + 5 * t + 2)
  have h3 := hb (2 + 5 * t + 3)
  have h4 := hb (2 + 5 * t + 4)
  simp only
  omega
/-- What was packed says how long it is. -/
theorem pack_same {z : Zn} {b : List Int} {m : Nat} (hm : gt b 1 = m) (hlen : b.length = 2 + 5 * m) (h : ∀ i, i < b.length → i < (packB z).length ∧ gt (packB z) i = gt b i) : packB z = b := by
  have h1 := (h 1 (by omega)).2
  have h2 := (packTo_head z (fewN z).length (Nat.le_refl _)).2
  have h3 := packTo_length z (fewN z).length (Nat.le_refl _)
  have e : packB z = packTo z (fewN z).length := rfl
  rw [e, h2, hm] at h1
  have hl : (packB z).length = b.length := by rw [e, h3, hlen]; omega
  apply List.ext_getElem hl
  intro i h5 h6
  have h7 := (h i h6).2
  unfold gt at h7
  rw [List.getD_eq_getElem?_getD, List.getD_eq_getElem?_getD, List.getElem?_eq_getElem h5, List.getElem?_eq_getElem h6] at h7
  exact h7
set_option maxRecDepth 100000 in
set_option maxHeartbeats 8000000 in
theorem runpack_main (A : Option Addr) (c : Nat) (b : List Int) (n m : Nat) (w : World) (hb : BytesAt w A c b) (hn : gt b 0 = n) (hn8 : n ≤ 8) (hm : gt b 1 = m) (hlen : b.length = 2 + 5 * m) :
    Calls Try.prog 78 #[.slice A b.length c] w fun e w' => RURet w (unpackR b) e w' ∧ New w w' := by
  obtain ⟨hcap, hby, hmax, hcm, hrd⟩ := hb
  obtain ⟨a, off, rfl, hcell⟩ := hrd (by intro e; subst e; simp at hlen; omega)
  have hgb : ∀ k, 0 ≤ gt b k ∧ gt b k ≤ 255 := fun k => by
    by_cases hk : k < b.length
    · have : gt b k ∈ b := by unfold gt; rw [List.getD_eq_getElem?_getD, List.getElem?_eq_getElem hk]; exact List.getElem_mem hk
      exact hby _ this
    · unfold gt; rw [List.getD_eq_getElem?_getD, List.getElem?_eq_none (by omega)]; simp
  have hm255 : m ≤ 255 := by have := (hgb 1).2; omega
  have HGB := Lib.hid hgb
  unfold maxLen at hcm
  rw [hlen] at hcap ⊢
  have HL := Lib.hid hlen
  have s00 := hcell w (New.refl w) 0 (by omega)
  have s01 := hcell w (New.refl w) 1 (by omega)
  rw [Nat.add_zero, hn] at s00
  rw [hm] at s01
  have hc2 : (2 : Int) + 5 * (m : Int) ≤ (c : Int) := by omega
  have z0 : (0 : Int) < 2 + 5 * (m : Int) := by omega
  have z1 : (1 : Int) < 2 + 5 * (m : Int) := by omega
  have zz0 : 0 < 2 + 5 * m := by omega
  have zz1 : 1 < 2 + 5 * m := by omega
  have w1 : IntKind.i64.wrap (5 * (m : Int)) = 5 * (m : Int) := by rw [IntKind.wrap_i64]; omega
  have w2 : IntKind.i64.wrap (2 + 5 * (m : Int)) = 2 + 5 * (m : Int) := by rw [IntKind.wrap_i64]; omega
  have HCL : Hid (∀ W, New w W → ∀ k, k < 2 + 5 * m → W.cell? ⟨a, off + k, none⟩ = some (.int .u8 (gt b k))) := fun W hW k hk => hcell W hW k (by omega)
  clear hcell
  have HN := Lib.hid hn
  have HM := Lib.hid hm
  have wn : IntKind.i64.wrap (n : Int) = (n : Int) := by rw [IntKind.wrap_i64]; omega
  have wm : IntKind.i64.wrap (m : Int) = (m : Int) := by rw [IntKind.wrap_i64]; omega
  have e0 : ((2 + 5 * (m : Int)) == 0) = false := by simp; omega
  have e1 : ((2 + 5 * (m : Int)) == 1) = false := by simp; omega
  have e8 : decide ((8 : Int) < (n : Int)) = false := decide_eq_false (by omega)
  clear hby hrd hgb hlen hn hm
  have e2 : decide (2 + 5 * (m : Int) < 2 + 5 * (m : Int)) = false := by simp
  go_enter Try.func78, Try.ntmps78
  go_wp2_with fail
  clear s00 s01 w1 w2 wn wm e0 e1 e8 e2
  go_loopw [6, 7] (fun vl vat wr => ∃ t : Nat, t ≤ m ∧ vat = .int .i64 ((2 + 5 * t : Nat) : Int) ∧ Hid (∀ s, s < t → okLim n (limAt b s) = true) ∧ Hid (wr.ownsRow w.heap.size 100 3 vl t (limRow (limsOf b t))) ∧ Hid (New w wr))
    (fun _ vat _ => 2 + 5 * m - (intOf vat).toNat)
  case atStart => exact ⟨0, Nat.zero_le _, by go_num, fun s hs => absurd hs (Nat.not_lt_zero _), World.ownsRow_nil _ _ _ _, New.refl w⟩
  case round =>
    obtain ⟨t, ht, rfl, HOK, HOW, HNW⟩ := hrel
    obtain ⟨p, hp⟩ : ∃ p, 2 + 5 * t = p := ⟨_, rfl⟩
    rw [hp]
    by_cases htm : t < m
    · have hpe : (p : Int) < 2 + 5 * (m : Int) := by omega
      have p2 : (0 : Int) ≤ (p : Int) := by omega
      have p4 : IntKind.i64.wrap ((p : Int) + 5) = (p : Int) + 5 := by rw [IntKind.wrap_i64]; omega
      obtain ⟨x0, hx0⟩ : ∃ x, gt b (2 + 5 * t) = x := ⟨_, rfl⟩
      obtain ⟨x1, hx1⟩ : ∃ x, gt b (2 + 5 * t + 1) = x := ⟨_, rfl⟩
      obtain ⟨x2, hx2⟩ : ∃ x, gt b (2 + 5 * t + 2) = x := ⟨_, rfl⟩
      obtain ⟨x3, hx3⟩ : ∃ x, gt b (2 + 5 * t + 3) = x := ⟨_, rfl⟩
      obtain ⟨x4, hx4⟩ : ∃ x, gt b (2 + 5 * t + 4) = x := ⟨_, rfl⟩
      have HQ0 : Hid (∀ W, New w W → W.cell? ⟨a, off + p, none⟩ = some (.int .u8 x0)) := fun W hW => by
        have h1 := HCL.out W hW (2 + 5 * t) (by omega); rw [hx0, hp] at h1; exact h1
      have HQ1 : Hid (∀ W, New w W → W.cell? ⟨a, off + (p + 1), none⟩ = some (.int .u8 x1)) := fun W hW => by
        have h1 := HCL.out W hW (2 + 5 * t + 1) (by omega); rw [hx1, hp] at h1; exact h1
      have HQ2 : Hid (∀ W, New w W → W.cell? ⟨a, off + (p + 2), none⟩ = some (.int .u8 x2)) := fun W hW => by
        have h1 := HCL.out W hW (2 + 5 * t + 2) (by omega); rw [hx2, hp] at h1; exact h1
      have HQ3 : Hid (∀ W, New w W → W.cell? ⟨a, off + (p + 3), none⟩ = some (.int .u8 x3)) := fun W hW => by
        have h1 := HCL.out W hW (2 + 5 * t + 3) (by omega); rw [hx3, hp] at h1; exact h1
      have HQ4 : Hid (∀ W, New w W → W.cell? ⟨a, off + (p + 4), none⟩ = some (.int .u8 x4)) := fun W hW => by
        have h1 := HCL.out W hW (2 + 5 * t + 4) (by omega); rw [hx4, hp] at h1; exact h1
      have HLIM : Hid (limAt b t = ⟨x0 / 16, x0 % 16, x1 * 16777216 + x2 * 65536 + x3 * 256 + x4 - 2147483648⟩) := by show _ = _; unfold limAt; rw [hx0, hx1, hx2, hx3, hx4]
      obtain ⟨a0, b0⟩ := hx0 ▸ HGB.out (2 + 5 * t)
      obtain ⟨a1, b1⟩ := hx1 ▸ HGB.out (2 + 5 * t + 1)
      obtain ⟨a2, b2⟩ := hx2 ▸ HGB.out (2 + 5 * t + 2)
      obtain ⟨a3, b3⟩ := hx3 ▸ HGB.out (2 + 5 * t + 3)
      obtain ⟨a4, b4⟩ := hx4 ▸ HGB.out (2 + 5 * t + 4)
      clear hx0 hx1 hx2 hx3 hx4
      have hor := or_bytes x1 x2 x3 x4 ⟨a1, b1⟩ ⟨a2, b2⟩ ⟨a3, b3⟩ ⟨a4, b4⟩
      obtain ⟨u, hu⟩ : ∃ u, x1 * 16777216 + x2 * 65536 + x3 * 256 + x4 = u := ⟨_, rfl⟩
      rw [hu] at hor HLIM
      have u0 : 0 ≤ u := by omega
      have u1 : u ≤ 4294967295 := by omega
      have hu : Hid (x1 * 16777216 + x2 * 65536 + x3 * 256 + x4 = u) := hu
      have v1 : IntKind.u32.wrap x1 = x1 := by rw [IntKind.wrap_u32]; omega
      have v2 : IntKind.u32.wrap x2 = x2 := by rw [IntKind.wrap_u32]; omega
      have v3 : IntKind.u32.wrap x3 = x3 := by rw [IntKind.wrap_u32]; omega
      have v4 : IntKind.u32.wrap x4 = x4 := by rw [IntKind.wrap_u32]; omega
      have v5 : IntKind.u32.wrap (x1 * 16777216) = x1 * 16777216 := by rw [IntKind.wrap_u32]; omega
      have v6 : IntKind.u32.wrap (x2 * 65536) = x2 * 65536 := by rw [IntKind.wrap_u32]; omega
      have v7 : IntKind.u32.wrap (x3 * 256) = x3 * 256 := by rw [IntKind.wrap_u32]; omega
      have hxo := xor_top u
      obtain ⟨y, hy⟩ : ∃ y, (u + 2147483648) % 4294967296 = y := ⟨_, rfl⟩
      have hwi : IntKind.i32.wrap y = u - 2147483648 := by rw [← hy, IntKind.wrap_i32]; omega
      rw [hy] at hxo
      obtain ⟨xb, hxb⟩ : ∃ xb, u - 2147483648 = xb := ⟨_, rfl⟩
      rw [hxb] at hwi HLIM
      have hwx : IntKind.i64.wrap x0 = x0 := by rw [IntKind.wrap_i64]; omega
      have hdv : Int.tdiv x0 16 = x0 / 16 := Int.tdiv_eq_ediv_of_nonneg a0
      have hmd : Int.tmod x0 16 = x0 % 16 := Int.tmod_eq_emod_of_nonneg a0
      have q1 : 0 ≤ x0 / 16 := by omega
      have q2 : x0 / 16 ≤ 15 := by omega
      have q3 : 0 ≤ x0 % 16 := by omega
      have q4 : x0 % 16 ≤ 15 := by omega
      have q5 : IntKind.i64.wrap (x0 / 16) = x0 / 16 := by rw [IntKind.wrap_i64]; omega
      have q6 : IntKind.i64.wrap (x0 % 16) = x0 % 16 := by rw [IntKind.wrap_i64]; omega
      have r1 : -2147483648 ≤ xb := by omega
      have r2 : xb ≤ 2147483647 := by omega
      clear hy hxb
      have p6 : (p : Int) + 4 < 2 + 5 * (m : Int) := by omega
      have p7 : p + 4 < 2 + 5 * m := by omega
      have s1 := HQ1.out wr HNW.out
      have s2 := HQ2.out wr HNW.out
      have s3 := HQ3.out wr HNW.out
      have s4 := HQ4.out wr HNW.out
      go_wp2_with fail
      go_quiet (fail)
      generalize hwd : wr.drewN nq = wd
      have hHeld : New wr wd := by rw [← hwd]; exact (New.refl wr).drewN nq
      have HN2 := Lib.hid (HNW.out.trans hHeld)
      have HOW2 := Lib.hid (own_new HOW.out hHeld)
      clear v1 v2 v3 v4 v5 v6 v7 hor hHeld s1 s2 s3 s4 hwd
      go_upto_region 15 with fail
      refine start_ (n := 18) (S := fun W => New wd W) (ds := []) #[false, false, false, false, false, false, false, false, false, false, false, false, false, false, false, false, false, false] (by kernel_rfl) rfl rfl (New.refl wd).drew (fun hHeld => ?_); refine with_tabW r78Tab r78Bits (fun HT_ HW_ => ?_)
      generalize wd.drew = w3 at hHeld ⊢
      refine pure_ (i := 0) (N := some 97) (v := ?_) (a' := ?_) #[true, false, false, false, false, false, false, false, false, false, false, false, false, false, false, false, false, false] rfl rfl (any_of HT_.out (by kernel_rfl)) (fun _ _ _ h => h) (Or.inl ⟨by rfl, ?_⟩) ?_ ?_
      rotate_left
      · intro w'
        go_simp
        with_reducible rfl
      rotate_left
      · simp only [Act.put, List.setIfInBounds_toArray, List.set_cons_zero, List.set_cons_succ]
        rfl
      refine pure_ (i := 1) (N := some 98) (v := ?_) (a' := ?_) #[true, true, false, false, false, false, false, false, false, false, false, false, false, false, false, false, false, false] rfl rfl (any_of HT_.out (by kernel_rfl)) (fun _ _ _ h => h) (Or.inl ⟨by rfl, ?_⟩) ?_ ?_
      rotate_left
      · intro w'
        go_simp
        with_reducible rfl
      rotate_left
      · simp only [Act.put, List.setIfInBounds_toArray, List.set_cons_zero, List.set_cons_succ]
        rfl
      refine pure_ (i := 2) (N := some 99) (v := ?_) (a' := ?_) #[true, true, true, false, false, false, false, false, false, false, false, false, false, false, false, false, false, false] rfl rfl (any_of HT_.out (by kernel_rfl)) (fun _ _ _ h => h) (Or.inl ⟨by rfl, ?_⟩) ?_ ?_
      rotate_left
      · intro w'
        go_simp
        with_reducible rfl
      rotate_left
      · simp only [Act.put, List.setIfInBounds_toArray, List.set_cons_zero, List.set_cons_succ]
        rfl
      refine pure_ (i := 6) (N := some 103) (v := ?_) (a' := ?_) #[true, true, true, false, false, false, true, false, false, false, false, false, false, false, false, false, false, false] rfl rfl (any_of HT_.out (by kernel_rfl)) (fun _ _ _ h => h) (Or.inl ⟨by rfl, ?_⟩) ?_ ?_
      rotate_left
      · intro w'
        go_simp
        with_reducible rfl
      rotate_left
      · simp only [Act.put, List.setIfInBounds_toArray, List.set_cons_zero, List.set_cons_succ]
        rfl
      refine pure_ (i := 7) (N := some 104) (v := ?_) (a' := ?_) #[true, true, true, false, false, false, true, true, false, false, false, false, false, false, false, false, false, false] rfl rfl (any_of HT_.out (by kernel_rfl)) (fun _ _ _ h => h) (Or.inl ⟨by rfl, ?_⟩) ?_ ?_
      rotate_left
      · intro w'
        go_simp
        with_reducible rfl
      rotate_left
      · simp only [Act.put, List.setIfInBounds_toArray, List.set_cons_zero, List.set_cons_succ]
        rfl
      refine pure_ (i := 8) (N := some 105) (v := ?_) (a' := ?_) #[true, true, true, false, false, false, true, true, true, false, false, false, false, false, false, false, false, false] rfl rfl (any_of HT_.out (by kernel_rfl)) (fun _ _ _ h => h) (Or.inl ⟨by rfl, ?_⟩) ?_ ?_
      rotate_left
      · intro w'
        go_simp
        with_reducible rfl
      rotate_left
      · simp only [Act.put, List.setIfInBounds_toArray, List.set_cons_zero, List.set_cons_succ]
        rfl
      refine pure_ (i := 12) (N := some 109) (v := ?_) (a' := ?_) #[true, true, true, false, false, false, true, true, true, false, false, false, true, false, false, false, false, false] rfl rfl (any_of HT_.out (by kernel_rfl)) (fun _ _ _ h => h) (Or.inl ⟨by rfl, ?_⟩) ?_ ?_
      rotate_left
      · intro w'
        go_simp
        with_reducible rfl
      rotate_left
      · simp only [Act.put, List.setIfInBounds_toArray, List.set_cons_zero, List.set_cons_succ]
        rfl
      refine pure_ (i := 13) (N := some 110) (v := ?_) (a' := ?_) #[true, true, true, false, false, false, true, true, true, false, false, false, true, true, false, false, false, false] rfl rfl (any_of HT_.out (by kernel_rfl)) (fun _ _ _ h => h) (Or.inl ⟨by rfl, ?_⟩) ?_ ?_
      rotate_left
      · intro w'
        go_simp
        with_reducible rfl
      rotate_left
      · simp only [Act.put, List.setIfInBounds_toArray, List.set_cons_zero, List.set_cons_succ]
        rfl
      refine pure_ (i := 14) (N := some 111) (v := ?_) (a' := ?_) #[true, true, true, false, false, false, true, true, true, false, false, false, true, true, true, false, false, false] rfl rfl (any_of HT_.out (by kernel_rfl)) (fun _ _ _ h => h) (Or.inl ⟨by rfl, ?_⟩) ?_ ?_
      rotate_left
      · intro w'
        go_simp
        with_reducible rfl
      rotate_left
      · simp only [Act.put, List.setIfInBounds_toArray, List.set_cons_zero, List.set_cons_succ]
        rfl
      refine take_ (i := 3) (N := some 100) (v := ?_) (a' := ?_) #[true, true, true, true, false, false, true, true, true, false, false, false, true, true, true, false, false, false] rfl rfl (take_ofW HT_.out HW_.out (by kernel_rfl)) (fun _ _ _ h => h) (Or.inl ⟨by rfl, ?_⟩) hHeld ?_ ?_
      rotate_left
      · intro w' hkt
        have s0 := HQ0.out w' (HN2.out.trans hkt)
        go_simp
        with_reducible rfl
      rotate_left
      · simp only [Act.put, List.setIfInBounds_toArray, List.set_cons_zero, List.set_cons_succ]
        rfl
      refine pure_ (i := 4) (N := some 101) (v := ?_) (a' := ?_) #[true, true, true, true, true, false, true, true, true, false, false, false, true, true, true, false, false, false] rfl rfl (any_of HT_.out (by kernel_rfl)) (fun _ _ _ h => h) (Or.inl ⟨by rfl, ?_⟩) ?_ ?_
      rotate_left
      · intro w'
        go_simp
        with_reducible rfl
      rotate_left
      · simp only [Act.put, List.setIfInBounds_toArray, List.set_cons_zero, List.set_cons_succ]
        rfl
      refine pure_ (i := 5) (N := some 102) (v := ?_) (a' := ?_) #[true, true, true, true, true, true, true, true, true, false, false, false, true, true, true, false, false, false] rfl rfl (any_of HT_.out (by kernel_rfl)) (fun _ _ _ h => h) (Or.inl ⟨by rfl, ?_⟩) ?_ ?_
      rotate_left
      · intro w'
        go_simp
        with_reducible rfl
      rotate_left
      · simp only [Act.put, List.setIfInBounds_toArray, List.set_cons_zero, List.set_cons_succ]
        rfl
      refine take_ (i := 9) (N := some 106) (v := ?_) (a' := ?_) #[true, true, true, true, true, true, true, true, true, true, false, false, true, true, true, false, false, false] rfl rfl (take_ofW HT_.out HW_.out (by kernel_rfl)) (fun _ _ _ h => h) (Or.inl ⟨by rfl, ?_⟩) hHeld ?_ ?_
      rotate_left
      · intro w' hkt
        have s0 := HQ0.out w' (HN2.out.trans hkt)
        go_simp
        with_reducible rfl
      rotate_left
      · simp only [Act.put, List.setIfInBounds_toArray, List.set_cons_zero, List.set_cons_succ]
        rfl
      refine pure_ (i := 10) (N := some 107) (v := ?_) (a' := ?_) #[true, true, true, true, true, true, true, true, true, true, true, false, true, true, true, false, false, false] rfl rfl (any_of HT_.out (by kernel_rfl)) (fun _ _ _ h => h) (Or.inl ⟨by rfl, ?_⟩) ?_ ?_
      rotate_left
      · intro w'
        go_simp
        with_reducible rfl
      rotate_left
      · simp only [Act.put, List.setIfInBounds_toArray, List.set_cons_zero, List.set_cons_succ]
        rfl
      refine pure_ (i := 11) (N := some 108) (v := ?_) (a' := ?_) #[true, true, true, true, true, true, true, true, true, true, true, true, true, true, true, false, false, false] rfl rfl (any_of HT_.out (by kernel_rfl)) (fun _ _ _ h => h) (Or.inl ⟨by rfl, ?_⟩) ?_ ?_
      rotate_left
      · intro w'
        go_simp
        with_reducible rfl
      rotate_left
      · simp only [Act.put, List.setIfInBounds_toArray, List.set_cons_zero, List.set_cons_succ]
        rfl
      refine pure_ (i := 15) (N := some 112) (v := ?_) (a' := ?_) #[true, true, true, true, true, true, true, true, true, true, true, true, true, true, true, true, false, false] rfl rfl (any_of HT_.out (by kernel_rfl)) (fun _ _ _ h => h) (Or.inl ⟨by rfl, ?_⟩) ?_ ?_
      rotate_left
      · intro w'
        go_simp
        with_reducible rfl
      rotate_left
      · simp only [Act.put, List.setIfInBounds_toArray, List.set_cons_zero, List.set_cons_succ]
        rfl
      have hHeld0 := hHeld
      refine one_ (i := 16) (N := some 9) #[true, true, true, true, true, true, true, true, true, true, true, true, true, true, true, true, true, false] rfl rfl (one_of HT_.out (by kernel_rfl)) (by decide) (fun K hK => ?_)
      refine gives_ (v := .pointer (some ⟨w3.heap.size, 0, none⟩)) (w1 := w3.alloc (.cells #[.int .i64 0, .int .i64 0, .int .i32 0] 100)) (by rfl) rfl (by go_simp) ?_
      refine hK.out _ _ (hHeld.alloc _) (fun hHeld => ?_)
      clear hK K
      refine norm_ (a' := ?_) ?_ ?_
      rotate_left
      · show Act.put _ (some 9) _ = _
        simp only [Act.put, List.setIfInBounds_toArray, List.set_cons_zero, List.set_cons_succ]
        rfl
      refine one_ (i := 17) (N := none) #[true, true, true, true, true, true, true, true, true, true, true, true, true, true, true, true, true, true] rfl rfl (one_of HT_.out (by kernel_rfl)) (by decide) (fun K hK => ?_)
      refine skip_ (w1 := w3.alloc (.cells #[.int .i64 (x0 / 16), .int .i64 (x0 % 16), .int .i32 xb] 100)) (by rfl) rfl (by go_simp) ?_
      refine hK.out _ _ (hHeld0.alloc _) (fun hHeld => ?_)
      clear hK K
      refine done_ (done_of HT_.out (by kernel_rfl)) ?_
      clear hwx hdv hmd hxo hwi hHeld0 q5 q6
      have hHH := Lib.hid hHeld
      have HR := Lib.hid (rright_any xb (w3.alloc (.cells #[.int .i64 (x0 / 16), .int .i64 (x0 % 16), .int .i32 xb] 100)) ⟨r1, r2⟩)
      have hbad : okLim n ⟨x0 / 16, x0 % 16, xb⟩ = false → unpackR b = .bad (2 + 5 * t) := fun h => unpackR_at HN.out hn8 HM.out HL.out htm HOK.out (by rw [HLIM.out]; exact h)
      have HBAD := Lib.hid hbad
      clear hbad hHeld
      by_cases c1 : (n : Int) < x0 / 16
      · have HB2 := Lib.hid (HBAD.out (by unfold okLim; simp only; rw [decide_eq_false (by omega)]; rfl))
        clear HBAD
        go_wp2_with fail
        go_ret3
        refine ⟨?_, ((HN2.out.trans hHH.out))⟩
        rw [HB2.out]
        show _ = _
        rw [← hp]
        push_cast
        rfl
      · by_cases c2 : (n : Int) < x0 % 16
        · have HB2 := Lib.hid (HBAD.out (by unfold okLim; simp only; rw [decide_eq_false (show ¬ x0 % 16 ≤ (n : Int) by omega)]; simp))
          clear HBAD
          go_wp2_with fail
          go_ret3
          refine ⟨?_, ((HN2.out.trans hHH.out))⟩
          rw [HB2.out]
          show _ = _
          rw [← hp]
          push_cast
          rfl
        · cases hrb : rightB xb with
          | false =>
            have HB2 := Lib.hid (HBAD.out (by unfold okLim; simp only; rw [hrb]; simp))
            rw [hrb] at HR
            clear HBAD hrb
            go_wp2_with fail
            refine HR.out.mono ?_
            rintro e w' ⟨rfl, rfl⟩
            go_wp2_with fail
            go_ret3
            refine ⟨?_, ((HN2.out.trans hHH.out))⟩
            rw [HB2.out]
            show _ = _
            rw [← hp]
            push_cast
            rfl
          | true =>
            have hok : okLim n (limAt b t) = true := by
              rw [HLIM.out]; unfold okLim; simp only; rw [hrb, decide_eq_true (show x0 / 16 ≤ (n : Int) by omega), decide_eq_true (show x0 % 16 ≤ (n : Int) by omega)]; rfl
            have HOK2 : Hid (∀ s, s < t + 1 → okLim n (limAt b s) = true) := fun s hs => by
              by_cases e : s = t
              · subst e; exact hok
              · exact HOK.out s (by omega)
            rw [hrb] at HR
            clear HBAD hrb hok
            go_wp2_with fail
            refine HR.out.mono ?_
            rintro e w' ⟨rfl, rfl⟩
            obtain ⟨i0, hi0, hz0, hz1, hz2⟩ := info_parts infoOf100
            have hN3 := hHH.out.alloc (.cells #[.int .i64 (x0 / 16), .int .i64 (x0 % 16), .int .i32 xb] 100)
            have HOWN := Lib.hid (own_new HOW2.out hN3)
            have HN3 := Lib.hid (HN2.out.trans hN3)
            have HEL : Hid (Elems ((w3.alloc (.cells #[.int .i64 (x0 / 16), .int .i64 (x0 % 16), .int .i32 xb] 100)).alloc (.cells #[.int .i64 (x0 / 16), .int .i64 (x0 % 16), .int .i32 xb] 100)) (w3.heap.size + 1 + 1) (some ⟨w3.heap.size + 1, 0, none⟩) [.int .i64 (x0 / 16), .int .i64 (x0 % 16), .int .i32 xb]) := by
              have h := elems_news (w3.alloc (.cells #[.int .i64 (x0 / 16), .int .i64 (x0 % 16), .int .i32 xb] 100)) 100 [.int .i64 (x0 / 16), .int .i64 (x0 % 16), .int .i32 xb]
              rw [show (w3.alloc (.cells #[.int .i64 (x0 / 16), .int .i64 (x0 % 16), .int .i32 xb] 100)).heap.size = w3.heap.size + 1 by simp] at h
              exact h
            have HSZ := Lib.hid HN3.out.size
            clear hN3
            go_wp2_with (at_builtin; (refine wpList_append_elems rfl _ _ 113 rfl w.heap.size 100 i0 (.agg #[.int .i64 0, .int .i64 0, .int .i32 0]) 3 24 Try.underlying113 hi0 hz0 hz1 hz2 rfl (by decide) _ t _ (by rfl) HOWN.out _ _ 1 1 _ (by rfl) HEL.out rfl ?c1 ?c2 ?c3 HSZ.out ?_))
            case c1 => intro y hy; simp at hy; rcases hy with rfl | rfl | rfl <;> rfl
            case c2 => unfold maxLen; omega
            case c3 => omega
            intro v' w' ho' hg' hb'
            have hF := Fr.of_grown (S := fun k => Value.ownBlock _ = some k) hg' (fun k hk _ => hk)
            have hN4 : New w w' := Fr.then HN3.out hF (fun _ _ e => e) (fun k hk e => by
              have h1 := (own_row HOWN.out e).1
              omega)
            have HN4 := Lib.hid hN4
            have HO' := Lib.hid ho'
            clear ho' hg' hb' hF hN4
            go_wp2_with fail
            refine ⟨⟨t + 1, by omega, by congr 1; omega, HOK2.out, ?_, HN4.out⟩, by simp [intOf] <;> omega⟩
            show World.ownsRow _ _ _ _ _ _ _
            rw [limsOf_succ, HLIM.out]
            have e : limRow (limsOf b t ++ [⟨x0 / 16, x0 % 16, xb⟩]) = limRow (limsOf b t) ++ [.int .i64 (x0 / 16), .int .i64 (x0 % 16), .int .i32 xb] := by simp [limRow]
            rw [e]
            exact HO'.out
    · have hpe : ¬ (p : Int) < 2 + 5 * (m : Int) := by omega
      have htm2 : t = m := by omega
      subst htm2
      have hlims : (limsOf b t).length = t := by simp [limsOf]
      have HALL := Lib.hid (unpackR_all HN.out hn8 HM.out HL.out HOK.out)
      obtain ⟨Al, cl, hvl⟩ := own_form HOW.out
      subst hvl
      have hbk := rback_any (n : Int) Al cl (limsOf b t) wr (elems_of_own HOW.out) (limsOf_range b HGB.out t) (by rw [hlims]; omega)
      rw [hlims, Int.toNat_natCast] at hbk
      have HBK := Lib.hid hbk
      clear hbk hlims
      cases hq : limZ n (limsOf b t) with
      | err k =>
        have hk := limZ_err hq
        have hkb : (k == 0) = false := by simp; omega
        have hr := HALL.out
        rw [hq] at hr
        have HR := Lib.hid hr
        have HQ := Lib.hid hq
        clear hq hk hr
        go_wp2_with fail
        refine HBK.out.mono ?_
        rintro e w5 ⟨hz, hn5⟩
        rw [HQ.out] at hz
        have hz : e = .returned (.tuple #[.pointer none, .int .i64 k]) := hz
        subst hz
        have HN5 := Lib.hid (HNW.out.trans hn5)
        clear hn5 HBK
        go_wp2_with fail
        go_ret3
        exact ⟨by rw [HR.out]; rfl, HN5.out⟩
      | ok Z =>
        obtain ⟨_, _, L, _, _, _, _, hf⟩ := limZ_ok hq
        have hgd := hf.good hn8
        have hr := HALL.out
        rw [hq] at hr
        have HR := Lib.hid hr
        have HQ := Lib.hid hq
        have HG := Lib.hid hgd
        clear hq hr hf hgd
        go_wp2_with fail
        refine HBK.out.mono ?_
        rintro e w5 ⟨hz, hn5⟩
        rw [HQ.out] at hz
        obtain ⟨g, rfl, hg, hrow⟩ := hz
        have HP := Lib.hid (rpack_any g ⟨n, Z⟩ w5 hrow HG.out)
        have HN5 := Lib.hid (HNW.out.trans hn5)
        have HROW := Lib.hid hrow
        have HGS := Lib.hid (Nat.le_trans HNW.out.size hg)
        clear hn5 HBK hrow hg
        go_wp2_with fail
        refine HP.out.mono ?_
        rintro e w6 ⟨vp, rfl, hop, hn6⟩
        obtain ⟨Ap, cp, hvp⟩ := own_form hop
        subst hvp
        obtain ⟨pb, hpb⟩ : ∃ pb, packB ⟨n, Z⟩ = pb := ⟨_, rfl⟩
        rw [hpb] at hop
        obtain ⟨lp, hlp⟩ : ∃ lp, pb.length = lp := ⟨_, rfl⟩
        rw [hpb, hlp]
        rw [hlp] at hop
        have HPB := Lib.hid hpb
        have HLP := Lib.hid hlp
        have HOP := Lib.hid hop
        have HN6 := Lib.hid (HN5.out.trans hn6)
        have HREF := Lib.hid (HROW.out.new hn6)
        clear hn6 hop hpb hlp HP HROW
        go_wp2_with fail
        go_loopw [14] (fun vi wr => ∃ i : Nat, i ≤ 2 + 5 * t ∧ vi = .int .i64 i ∧ Hid (∀ j, j < i → j < lp ∧ gt pb j = gt b j) ∧ Hid (Drew w6 wr))
          (fun vi _ => 2 + 5 * t - (intOf vi).toNat)
        case atStart => exact ⟨0, Nat.zero_le _, by go_num, fun j hj => absurd hj (Nat.not_lt_zero _), Drew.refl w6⟩
        case round =>
          obtain ⟨i, hi, rfl, HSM, HD⟩ := hrel
          have hbad : ¬ packB ⟨n, Z⟩ = b → unpackR b = .bad 2 := fun h => by rw [HR.out]; exact if_neg h
          have HBAD := Lib.hid hbad
          clear hbad
          by_cases hil : i < 2 + 5 * t
          · have hiz : (i : Int) < 2 + 5 * (t : Int) := by omega
            have s1 := HCL.out wr (HN6.out.trans HD.out.new) i hil
            by_cases hip : i < lp
            · have hge : decide ((lp : Int) ≤ (i : Int)) = false := decide_eq_false (by omega)
              have hge2 : decide ((i : Int) ≥ (lp : Int)) = false := decide_eq_false (by omega)
              have hipz : (i : Int) < (lp : Int) := by omega
              obtain ⟨gp, hgp, _, _, hcp, _⟩ := own_cell (own_new HOP.out HD.out.new) (by rw [ints8_length, HLP.out]; omega)
              subst hgp
              have s2 := hcp i (.int .u8 (gt pb i)) (by
                unfold ints8 gt
                rw [List.getElem?_map, List.getD_eq_getElem?_getD, List.getElem?_eq_getElem (by rw [HLP.out]; exact hip)]; rfl)
              obtain ⟨x, hx⟩ : ∃ x, gt pb i = x := ⟨_, rfl⟩
              obtain ⟨y, hy⟩ : ∃ y, gt b i = y := ⟨_, rfl⟩
              rw [hx] at s2
              rw [hy] at s1
              have HX := Lib.hid hx
              have HY := Lib.hid hy
              clear hcp hx hy
              by_cases hxy : x = y
              · have hxyb : (x != y) = false := by simp [hxy]
                have HXY := Lib.hid hxy
                clear hxy
                go_wp2_with fail
                go_quiet (fail)
                go_wp2_with fail
                refine ⟨⟨i + 1, by omega, by go_num, fun j hj => ?_, HD.out.drewN _⟩, by simp [intOf] <;> omega⟩
                by_cases e : j = i
                · subst e; exact ⟨hip, by rw [HX.out, HY.out]; exact HXY.out⟩
                · exact HSM.out j (by omega)
              · have hxyb : (x != y) = true := by simp [hxy]
                have HU := Lib.hid (HBAD.out (fun e => hxy (by rw [← HX.out, ← HY.out, ← e, HPB.out])))
                clear hxy
                go_wp2_with fail
                go_quiet (fail)
                go_wp2_with fail
                go_ret3
                exact ⟨by rw [HU.out]; rfl, (HN6.out.trans HD.out.new).drewN _⟩
            · have hge : decide ((lp : Int) ≤ (i : Int)) = true := decide_eq_true (by omega)
              have hge2 : decide ((i : Int) ≥ (lp : Int)) = true := decide_eq_true (by omega)
              have hipz : ¬ (i : Int) < (lp : Int) := by omega
              have HU := Lib.hid (HBAD.out (fun e => by
                have h1 := HLP.out
                rw [← HPB.out, e, HL.out] at h1
                omega))
              go_wp2_with fail
              go_quiet (fail)
              go_wp2_with fail
              go_ret3
              exact ⟨by rw [HU.out]; rfl, (HN6.out.trans HD.out.new).drewN _⟩
          · have hiz : ¬ (i : Int) < 2 + 5 * (t : Int) := by omega
            have hpe : packB ⟨n, Z⟩ = b := pack_same HM.out HL.out (fun j hj => by
              have h1 := HSM.out j (by have := HL.out; omega)
              rw [HPB.out, HLP.out]; exact h1)
            have HU : Hid (unpackR b = .ok n Z) := by show _ = _; rw [HR.out]; exact if_pos hpe
            clear hpe
            go_wp2_with fail
            go_ret3
            exact ⟨by rw [HU.out]; exact ⟨g, rfl, HGS.out, HREF.out.new HD.out.new⟩, HN6.out.trans HD.out.new⟩
end Go.Proofs.Ytapfihlgemejiaa
