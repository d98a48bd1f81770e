/- gnomonref25.Unpack of any bytes; ReduceReads. -/
import Derived.Test.YtapfihlgemejiaaQ17
import Derived.Test.YtapfihlgemejiaaR17
namespace Go.Proofs.Ytapfihlgemejiaa
open Go.RowKit
set_option maxRecDepth 100000 in
set_option maxHeartbeats 4000000 in
theorem runpack_any (A : Option Addr) (c : Nat) (b : List Int) (w : World) (hb : BytesAt w A c b) :
    Calls Try.prog 78 #[.slice A b.length c] w fun e w' => RURet w (unpackR b) e w' ∧ New w w' := by
  by_cases h0 : b = []
  · subst h0
    have hu : unpackR [] = .bad 0 := by unfold unpackR; rw [if_pos (.inl rfl)]
    have HU := Lib.hid hu
    clear hu hb
    simp only [List.length_nil]
    go_enter Try.func78, Try.ntmps78
    go_wp2_with fail
    go_ret3
    exact ⟨by rw [HU.out]; rfl, New.refl w⟩
  · obtain ⟨hcap, hby, hbl, hcm, hrd⟩ := hb
    obtain ⟨a, off, hA, hcell⟩ := hrd h0
    subst hA
    have hpos : 0 < b.length := List.length_pos_iff.2 h0
    have x0 := hby _ (gt_mem hpos)
    have s0 := hcell w (New.refl w) 0 hpos
    rw [Nat.add_zero] at s0
    by_cases h8 : 8 < gt b 0
    · have hu : unpackR b = .bad 0 := by unfold unpackR; rw [if_pos (.inr h8)]
      have HU := Lib.hid hu
      obtain ⟨L, hL⟩ : ∃ L, b.length = L := ⟨_, rfl⟩
      rw [hL] at hpos hbl ⊢
      have hLz : ((L : Int) == 0) = false := by simp; omega
      clear hu hcap hby hcm hcell hrd h0 hL
      generalize gt b 0 = x at *
      go_enter Try.func78, Try.ntmps78
      go_wp2_with fail
      go_ret3
      exact ⟨by rw [HU.out]; rfl, New.refl w⟩
    · by_cases h1 : b.length = 1
      · have hu : unpackR b = .bad 1 := by unfold unpackR; rw [if_neg (by rintro (h | h); exact h0 h; exact h8 h), if_pos h1]
        have HU := Lib.hid hu
        rw [h1]
        clear hu hcap hby hcm hcell hrd h0 hbl h1 hpos
        generalize gt b 0 = x at *
        go_enter Try.func78, Try.ntmps78
        go_wp2_with fail
        go_ret3
        exact ⟨by rw [HU.out]; rfl, New.refl w⟩
      · have hpos1 : 1 < b.length := by omega
        have x1 := hby _ (gt_mem hpos1)
        obtain ⟨n, hn⟩ : ∃ n : Nat, gt b 0 = n := ⟨(gt b 0).toNat, by omega⟩
        obtain ⟨m, hm⟩ : ∃ m : Nat, gt b 1 = m := ⟨(gt b 1).toNat, by omega⟩
        by_cases hlen : b.length = 2 + 5 * m
        · exact runpack_main (some ⟨a, off, none⟩) c b n m w ⟨hcap, hby, hbl, hcm, hrd⟩ hn (by omega) hm hlen
        · have s1 := hcell w (New.refl w) 1 hpos1
          have hu : unpackR b = .bad (if (b.length : Int) < 2 + 5 * gt b 1 then b.length else 2 + 5 * gt b 1) := by
            unfold unpackR
            rw [if_neg (by rintro (h | h); exact h0 h; exact h8 h), if_neg h1, if_pos (by rw [hm]; omega)]
          rw [hn] at s0 x0 h8
          rw [hm] at s1 x1 hu
          obtain ⟨L, hL⟩ : ∃ L, b.length = L := ⟨_, rfl⟩
          rw [hL] at hpos1 hbl hlen hu ⊢
          have HU := Lib.hid hu
          have hLz : ((L : Int) == 0) = false := by simp; omega
          have hL1 : ((L : Int) == 1) = false := by simp; omega
          have hLe : ((L : Int) != 2 + 5 * (m : Int)) = true := by simp; omega
          have hLe' : ((L : Int) == 2 + 5 * (m : Int)) = false := by simp; omega
          clear hu hcap hby hcm hcell hrd h0 hL h1 hn hm hpos
          by_cases hlt : (L : Int) < 2 + 5 * (m : Int)
          · rw [if_pos hlt] at HU
            go_enter Try.func78, Try.ntmps78
            go_wp2_with fail
            go_ret3
            exact ⟨by rw [HU.out]; rfl, New.refl w⟩
          · rw [if_neg hlt] at HU
            have hgt : (2 : Int) + 5 * (m : Int) < (L : Int) := by omega
            go_enter Try.func78, Try.ntmps78
            go_wp2_with fail
            go_quiet (fail)
            go_wp2_with fail
            go_ret3
            exact ⟨by rw [HU.out]; rfl, (New.refl w).drewN _⟩

/-- Zones of both kinds, or none of both. -/
def TwoZ (w : World) (p r : Value) : Prop := (p = .pointer none ∧ r = .pointer none) ∨ ∃ g h : Nat, ∃ z : Zn, p = .pointer (some ⟨g, 0, none⟩) ∧ r = .pointer (some ⟨h, 0, none⟩) ∧ ZoneAt w g z ∧ RefAt w h z
theorem TwoZ.new {w w' : World} {p r : Value} (h : TwoZ w p r) (hn : New w w') : TwoZ w' p r := by
  rcases h with h | ⟨g, k, z, h1, h2, h3, h4⟩
  · exact .inl h
  · exact .inr ⟨g, k, z, h1, h2, h3.new hn, h4.new hn⟩
/-- All cells of both, held against one another. -/
theorem TwoZ.cells {w : World} {p r : Value} (h : TwoZ w p r) : ∃ l : List Int, l.length ≤ 81 ∧ (∀ W, New w W → Calls Try.prog 75 #[p] W fun e w' => ∃ v, e = .returned v ∧ w'.ownsRow W.heap.size 76 1 v l.length (ints32 l) ∧ New W w') ∧
    ∀ W, New w W → Calls Try.prog 80 #[r] W fun e w' => ∃ v, e = .returned v ∧ w'.ownsRow W.heap.size 76 1 v l.length (ints32 l) ∧ New W w' := by
  rcases h with ⟨rfl, rfl⟩ | ⟨g, k, z, rfl, rfl, h3, h4⟩
  · refine ⟨[], by simp, fun W _ => (cells_nil W).mono ?_, fun W _ => (rcells_nil W).mono ?_⟩
    · rintro e w' ⟨rfl, rfl⟩; exact ⟨_, rfl, World.ownsRow_nil _ _ _ _, New.refl _⟩
    · rintro e w' ⟨rfl, rfl⟩; exact ⟨_, rfl, World.ownsRow_nil _ _ _ _, New.refl _⟩
  · refine ⟨cellsOf z, ?_, fun W hn => cells_any g z W (h3.new hn), fun W hn => rcells_any k z W (h4.new hn)⟩
    rw [cellsOf_length]
    have hd := h3.dim
    have h1 : (z.n + 1) * (z.n + 1) ≤ 9 * 9 := Nat.mul_le_mul (by omega) (by omega)
    omega
set_option maxRecDepth 100000 in
set_option maxHeartbeats 4000000 in
theorem reads_main (n : Int) (v vb : Value) (A : Option Addr) (c : Nat) (b : List Int) (w : World) (hvb : vb = .slice A b.length c) (hE : Elems w w.heap.size A (b.map (Value.int .u8))) (hbl : b.length ≤ 140737488355328) (e1 e2 e3 : Int)
    (hp : Calls Try.prog 65 #[.int .i64 n, v] w fun e w1 => ∃ p, e = .returned (.tuple #[p, .int .i64 e1]) ∧ New w w1 ∧
      Calls Try.prog 77 #[.int .i64 n, v] w1 fun e w2 => ∃ r, e = .returned (.tuple #[r, .int .i64 e1]) ∧ New w1 w2 ∧ TwoZ w2 p r)
    (hu : ∀ w2, New w w2 → Calls Try.prog 76 #[vb] w2 fun e w3 => ∃ p, e = .returned (.tuple #[p, .int .i64 e2, .int .i64 e3]) ∧ New w2 w3 ∧
      Calls Try.prog 78 #[vb] w3 fun e w4 => ∃ r, e = .returned (.tuple #[r, .int .i64 e2, .int .i64 e3]) ∧ New w3 w4 ∧ TwoZ w4 p r ∧
        (e2 = 0 → ∀ W, New w4 W → Calls Try.prog 72 #[p] W fun e w' => ∃ v, e = .returned (.tuple #[v, .int .i64 0]) ∧ w'.ownsRow W.heap.size 5 1 v b.length (ints8 b) ∧ New W w')) :
    Calls Try.prog 17 #[.int .i64 n, v, vb] w fun e w' => e = .returned (.bool true) ∧ Below w.heap.size w w' := by
  have HP := Lib.hid hp
  have HU := Lib.hid hu
  have HE := Lib.hid hE
  have LV := Lib.hid live25_any
  obtain ⟨m, hm⟩ : ∃ m, b.length = m := ⟨_, rfl⟩
  have HM := Lib.hid hm
  have HVB := Lib.hid hvb
  rw [hm] at hbl
  clear hp hu hE hm hvb
  have ee1 : (e1 != e1) = false := by simp
  have ee2 : (e2 != e2) = false := by simp
  have ee3 : (e3 != e3) = false := by simp
  go_enter Try.func17, Try.ntmps17
  go_wp2_with fail
  refine HP.out.mono ?_
  rintro e w1 ⟨p, rfl, hn1, hc1⟩
  have HC1 := Lib.hid hc1
  have N1 := Lib.hid hn1
  clear hc1 hn1 HP
  go_wp2_with fail
  refine HC1.out.mono ?_
  rintro e w2 ⟨r, rfl, hn2, ht2⟩
  have N2 := Lib.hid (N1.out.trans hn2)
  have HT2 := Lib.hid ht2
  clear hn2 ht2 HC1
  go_wp2_with fail
  refine (HU.out w2 N2.out).mono ?_
  rintro e w3 ⟨p2, rfl, hn3, hc3⟩
  have HC3 := Lib.hid hc3
  have N3 := Lib.hid (N2.out.trans hn3)
  have N23 := Lib.hid hn3
  clear hc3 hn3 HU
  go_wp2_with fail
  refine HC3.out.mono ?_
  rintro e w4 ⟨r2, rfl, hn4, ht4, hpk⟩
  have N4 := Lib.hid (N3.out.trans hn4)
  have N24 := Lib.hid (N23.out.trans hn4)
  have HT4 := Lib.hid ht4
  have HPK := Lib.hid hpk
  clear hn4 ht4 hpk HC3
  go_wp2_with fail
  refine (LV.out w4).mono ?_
  rintro e w5 ⟨rfl, hn5⟩
  obtain ⟨l, hl, hc5, hr5⟩ := (HT2.out.new (N24.out.trans hn5)).cells
  obtain ⟨l2, hl2, hc6, hr6⟩ := (HT4.out.new hn5).cells
  have N5 := Lib.hid (N4.out.trans hn5)
  have N45 := Lib.hid hn5
  have HC5 := Lib.hid hc5
  have HR5 := Lib.hid hr5
  have HC6 := Lib.hid hc6
  have HR6 := Lib.hid hr6
  obtain ⟨q, hq⟩ : ∃ q, l.length = q := ⟨_, rfl⟩
  obtain ⟨q2, hq2⟩ : ∃ q, l2.length = q := ⟨_, rfl⟩
  have HQ := Lib.hid hq
  have HQ2 := Lib.hid hq2
  rw [hq] at hl
  rw [hq2] at hl2
  clear hn5 hc5 hr5 hc6 hr6 hq hq2
  go_wp2_with fail
  refine (HC5.out w5 (New.refl w5)).mono ?_
  rintro e w6 ⟨v6, rfl, ho6, hn6⟩
  rw [HQ.out] at ho6
  obtain ⟨A6, c6, hv6⟩ := own_form ho6
  subst hv6
  have HO6 := Lib.hid ho6
  have N56 := Lib.hid hn6
  clear ho6 hn6 HC5
  go_wp2_with fail
  refine (HR5.out w6 N56.out).mono ?_
  rintro e w7 ⟨v7, rfl, ho7, hn7⟩
  rw [HQ.out] at ho7
  obtain ⟨A7, c7, hv7⟩ := own_form ho7
  subst hv7
  have SC := rsame_cells A6 A7 c6 c7 l w7 (((elems_of_own HO6.out).new hn7 (Nat.le_refl _)).mono hn7.size) (elems_of_own ho7) (by rw [HQ.out]; omega)
  rw [HQ.out] at SC
  have HSC := Lib.hid SC
  have N57 := Lib.hid (N56.out.trans hn7)
  clear ho7 hn7 HR5 SC
  go_wp2_with fail
  refine HSC.out.mono ?_
  rintro e w8 ⟨rfl, hd8⟩
  have N58 := Lib.hid (N57.out.trans hd8.new)
  clear hd8 HSC
  go_wp2_with fail
  refine (HC6.out w8 N58.out).mono ?_
  rintro e w9 ⟨v9, rfl, ho9, hn9⟩
  rw [HQ2.out] at ho9
  obtain ⟨A9, c9, hv9⟩ := own_form ho9
  subst hv9
  have HO9 := Lib.hid ho9
  have N59 := Lib.hid (N58.out.trans hn9)
  clear ho9 hn9 HC6
  go_wp2_with fail
  refine (HR6.out w9 N59.out).mono ?_
  rintro e w10 ⟨v10, rfl, ho10, hn10⟩
  rw [HQ2.out] at ho10
  obtain ⟨A10, c10, hv10⟩ := own_form ho10
  subst hv10
  have SC := rsame_cells A9 A10 c9 c10 l2 w10 (((elems_of_own HO9.out).new hn10 (Nat.le_refl _)).mono hn10.size) (elems_of_own ho10) (by rw [HQ2.out]; omega)
  rw [HQ2.out] at SC
  have HSC := Lib.hid SC
  have N510 := Lib.hid (N59.out.trans hn10)
  clear ho10 hn10 HR6 SC
  go_wp2_with fail
  refine HSC.out.mono ?_
  rintro e w11 ⟨rfl, hd11⟩
  have N511 := Lib.hid (N510.out.trans hd11.new)
  clear hd11 HSC
  by_cases he : e2 = 0
  · have hz : (e2 != 0) = false := by simp [he]
    have PK := Lib.hid (HPK.out he w11 (N45.out.trans N511.out))
    clear he
    go_wp2_with fail
    refine PK.out.mono ?_
    rintro e w12 ⟨v12, rfl, ho12, hn12⟩
    rw [HM.out] at ho12
    obtain ⟨A12, c12, hv12⟩ := own_form ho12
    subst hv12
    have hn : New w w12 := (N5.out.trans N511.out).trans hn12
    have SB := same_any A12 A c12 c b b w12 (elems_of_own ho12) ((HE.out.new hn (Nat.le_refl _)).mono hn.size) (by rw [HM.out]; omega)
    rw [← HVB.out, HM.out, decide_eq_true rfl] at SB
    have HSB := Lib.hid SB
    have HN := Lib.hid hn
    clear ho12 hn12 SB hn PK
    go_wp2_with fail
    refine HSB.out.mono ?_
    rintro e w13 ⟨rfl, hd13⟩
    go_wp2_with fail
    go_ret
    exact ⟨rfl, (HN.out.trans hd13.new).below (Nat.le_refl _)⟩
  · have hz : (e2 != 0) = true := by simp [he]
    go_wp2_with fail
    go_ret
    exact ⟨rfl, (N5.out.trans N511.out).below (Nat.le_refl _)⟩
theorem limZ_zone {n : Int} {l : List Lim} {Z : List Int} (h : limZ n l = .ok Z) : ∃ k : Nat, n = k ∧ ZGood ⟨k, Z⟩ ∧ Z.length = 81 := by
  have hf : fewB n = true := by
    unfold limZ at h
    split at h
    · cases h
    · rename_i hf; simpa using hf
  unfold fewB at hf
  simp only [decide_eq_true_eq] at hf
  obtain ⟨k, rfl⟩ := Int.eq_ofNat_of_zero_le hf.1
  obtain ⟨hk, _, L, _, _, _, _, hz⟩ := limZ_ok h
  exact ⟨k, rfl, hz.good hk, hz.len⟩
theorem unpackR_zone {b : List Int} {k : Nat} {Z : List Int} (h : unpackR b = .ok k Z) : ZGood ⟨k, Z⟩ ∧ Z.length = 81 ∧ packB ⟨k, Z⟩ = b := by
  unfold unpackR at h
  split at h
  · cases h
  · split at h
    · cases h
    · split at h
      · cases h
      · split at h
        · cases h
        · split at h
          · cases h
          · rename_i Z' hq
            split at h
            · rename_i hpk
              injection h with h1 h2
              subst h2
              obtain ⟨k', hk', hg, hl⟩ := limZ_zone hq
              have e : k' = k := by rw [hk'] at h1; simpa using h1
              subst e
              rw [h1] at hpk
              exact ⟨hg, hl, hpk⟩
            · cases h
theorem reads_any (n : Int) (A : Option Addr) (c : Nat) (l : List Lim) (B : Option Addr) (d : Nat) (b : List Int) (w : World) (hl : LimsIn w A l) (hb : BytesCap w B d b) :
    Calls Try.prog 17 #[.int .i64 n, .slice A l.length c, .slice B b.length d] w fun e w' => e = .returned (.bool true) ∧ Below w.heap.size w w' := by
  obtain ⟨hE, hr, hlen⟩ := hl
  have hrb : ∀ x ∈ l, -2147483648 ≤ x.b ∧ x.b ≤ 2147483647 := fun x hx => (hr x hx).2.2
  have B1 := back_lims n A c l w (by omega) hE
  have B2 := fun w1 (hn : New w w1) => rback_any n A c l w1 ((hE.new hn (Nat.le_refl _)).mono hn.size) hrb hlen
  have U1 := fun w2 (hn : New w w2) => unpack_any B d b w2 (hb.at_ hn)
  have U2 := fun w3 (hn : New w w3) => runpack_any B d b w3 (hb.at_ hn)
  obtain ⟨e2, e3, hu⟩ : ∃ e2 e3, ∀ w2, New w w2 → Calls Try.prog 76 #[.slice B b.length d] w2 fun e w3 => ∃ p, e = .returned (.tuple #[p, .int .i64 e2, .int .i64 e3]) ∧ New w2 w3 ∧
      Calls Try.prog 78 #[.slice B b.length d] w3 fun e w4 => ∃ r, e = .returned (.tuple #[r, .int .i64 e2, .int .i64 e3]) ∧ New w3 w4 ∧ TwoZ w4 p r ∧
        (e2 = 0 → ∀ W, New w4 W → Calls Try.prog 72 #[p] W fun e w' => ∃ v, e = .returned (.tuple #[v, .int .i64 0]) ∧ w'.ownsRow W.heap.size 5 1 v b.length (ints8 b) ∧ New W w') := by
    cases hq : unpackR b with
    | bad a =>
      refine ⟨7, a, fun w2 hn => (U1 w2 hn).mono ?_⟩
      rintro e w3 ⟨hz, hn3⟩
      rw [hq] at hz
      refine ⟨_, hz, hn3, (U2 w3 (hn.trans hn3)).mono ?_⟩
      rintro e w4 ⟨hz4, hn4⟩
      rw [hq] at hz4
      exact ⟨_, hz4, hn4, .inl ⟨rfl, rfl⟩, fun h => by cases h⟩
    | ok k Z =>
      obtain ⟨hg, hzl, hpk⟩ := unpackR_zone hq
      refine ⟨0, 0, fun w2 hn => (U1 w2 hn).mono ?_⟩
      rintro e w3 ⟨hz, hn3⟩
      rw [hq] at hz
      obtain ⟨g, he, hgs, hrow⟩ := hz
      refine ⟨_, he, hn3, (U2 w3 (hn.trans hn3)).mono ?_⟩
      rintro e w4 ⟨hz4, hn4⟩
      rw [hq] at hz4
      obtain ⟨g4, he4, hgs4, href⟩ := hz4
      have hza : ZoneAt w4 g ⟨k, Z⟩ := ZoneAt.new ⟨hrow, hzl, hg.1⟩ hn4
      refine ⟨_, he4, hn4, .inr ⟨g, g4, ⟨k, Z⟩, rfl, rfl, hza, href⟩, fun _ W hW => ?_⟩
      have := pack_any g ⟨k, Z⟩ W (hza.new hW) hg
      unfold PackPost at this
      rw [hpk] at this
      exact this
  cases hq : limZ n l with
  | err k =>
    refine reads_main n _ _ B d b w rfl hb.1.1 hb.1.2.2 k e2 e3 (B1.mono ?_) hu
    rintro e w1 ⟨hz, hn1⟩
    rw [hq] at hz
    refine ⟨_, hz, hn1, (B2 w1 hn1).mono ?_⟩
    rintro e w2 ⟨hz2, hn2⟩
    rw [hq] at hz2
    exact ⟨_, hz2, hn2, .inl ⟨rfl, rfl⟩⟩
  | ok Z =>
    obtain ⟨k, rfl, hg, hzl⟩ := limZ_zone hq
    refine reads_main k _ _ B d b w rfl hb.1.1 hb.1.2.2 0 e2 e3 (B1.mono ?_) hu
    rintro e w1 ⟨hz, hn1⟩
    rw [hq] at hz
    obtain ⟨g, he, hgs, hrow⟩ := hz
    refine ⟨_, he, hn1, (B2 w1 hn1).mono ?_⟩
    rintro e w2 ⟨hz2, hn2⟩
    rw [hq] at hz2
    obtain ⟨g2, he2, hgs2, href⟩ := hz2
    exact ⟨_, he2, hn2, .inr ⟨g, g2, ⟨k, Z⟩, rfl, rfl, ZoneAt.new ⟨hrow, hzl, hg.1⟩ hn2, href⟩⟩
end Go.Proofs.Ytapfihlgemejiaa
