/- gnomonlaw25: two lists of limits are the same; ReduceFinds over what is found. -/
import Derived.Test.YtapfihlgemejiaaQ13
import Derived.Test.YtapfihlgemejiaaD6
import Derived.Test.YtapfihlgemejiaaR17
namespace Go.Proofs.Ytapfihlgemejiaa
open Go.RowKit
theorem run_neq_limit (i j b : Int) (w : World) : (binOp .neq 100 (.agg #[.int .i64 i, .int .i64 j, .int .i32 b]) (.agg #[.int .i64 i, .int .i64 j, .int .i32 b])).run Try.prog w = .ok (.bool false) w := by
  go_simp
theorem load_lim {w : World} {b off : Nat} {i j x : Int} (h0 : w.cell? ⟨b, off, none⟩ = some (.int .i64 i)) (h1 : w.cell? ⟨b, off + 1, none⟩ = some (.int .i64 j)) (h2 : w.cell? ⟨b, off + 2, none⟩ = some (.int .i32 x)) :
    (loadVar 100 ⟨b, off, none⟩).run Try.prog w = .ok (.agg #[.int .i64 i, .int .i64 j, .int .i32 x]) w := by
  have hl := run_loadCells_list (P := Try.prog) w ⟨b, off, none⟩ [.int .i64 i, .int .i64 j, .int .i32 x] (fun k v hv => by
    rw [Addr.add_lit]
    match k, hv with
    | 0, hv => simp at hv; subst hv; exact h0
    | 1, hv => simp at hv; subst hv; exact h1
    | 2, hv => simp at hv; subst hv; exact h2)
  have hs : ∀ w, (sizeOf 100).run Try.prog w = .ok 3 w := fun w => by kernel_rfl
  have ha : ∀ w, (isAgg 100).run Try.prog w = .ok true w := fun w => by kernel_rfl
  have hl' : (loadCellsFrom ⟨b, off, none⟩ 0 3 #[]).run Try.prog w = .ok #[.int .i64 i, .int .i64 j, .int .i32 x] w := hl
  simp [loadVar, loadCells, hl', hs, ha]
set_option maxRecDepth 100000 in
set_option maxHeartbeats 2000000 in
theorem slims_any (A B : Option Addr) (c d : Nat) (l : List Lim) (w : World) (hA : Elems w w.heap.size A (limRow l)) (hB : Elems w w.heap.size B (limRow l)) (hl : l.length < 4611686018427387904) :
    Calls Try.prog 74 #[.slice A l.length c, .slice B l.length d] w fun e w' => e = .returned (.bool true) ∧ Drew w w' := by
  have HA := Lib.hid hA
  have HB := Lib.hid hB
  obtain ⟨m, hm⟩ : ∃ m, l.length = m := ⟨_, rfl⟩
  rw [hm] at hl ⊢
  have HM := Lib.hid hm
  clear hA hB hm
  have hneq := run_neq_limit
  go_enter Try.func74, Try.ntmps74
  go_wp2_with fail
  go_loopw [5] (fun ci wr => ∃ k : Nat, k ≤ m ∧ ci = .int .i64 k ∧ Drew w wr) (fun cn _ => m - (intOf cn).toNat)
  case atStart => exact ⟨0, by omega, rfl, Drew.refl w⟩
  case round =>
    obtain ⟨k, hk, rfl, hd⟩ := hrel
    by_cases hlt : k < m
    · have hkk : (k : Int) < m := by omega
      obtain ⟨b1, o1, hA1, hb1, _⟩ := HA.out.lims k (by rw [HM.out]; exact hlt)
      obtain ⟨b2, o2, hA2, hb2, _⟩ := HB.out.lims k (by rw [HM.out]; exact hlt)
      subst hA1
      subst hA2
      have hl1 : ∀ x, (∃ n, x = wr.drewN n) → (loadVar 100 ⟨b1, o1 + k * 3, none⟩).run Try.prog x = .ok (.agg #[.int .i64 (l.getD k ⟨0, 0, 0⟩).i, .int .i64 (l.getD k ⟨0, 0, 0⟩).j, .int .i32 (l.getD k ⟨0, 0, 0⟩).b]) x := fun x ⟨n, e⟩ => by
        obtain ⟨b', o', hA', _, c0, c1, c2⟩ := (HA.out.new (hd.drewN n).new (Nat.le_refl _)).lims k (by rw [HM.out]; exact hlt)
        cases hA'
        rw [e]
        exact load_lim c0 c1 c2
      have hl2 : ∀ x, (∃ n, x = wr.drewN n) → (loadVar 100 ⟨b2, o2 + k * 3, none⟩).run Try.prog x = .ok (.agg #[.int .i64 (l.getD k ⟨0, 0, 0⟩).i, .int .i64 (l.getD k ⟨0, 0, 0⟩).j, .int .i32 (l.getD k ⟨0, 0, 0⟩).b]) x := fun x ⟨n, e⟩ => by
        obtain ⟨b', o', hA', _, c0, c1, c2⟩ := (HB.out.new (hd.drewN n).new (Nat.le_refl _)).lims k (by rw [HM.out]; exact hlt)
        cases hA'
        rw [e]
        exact load_lim c0 c1 c2
      generalize (l.getD k ⟨0, 0, 0⟩).i = xi at *
      generalize (l.getD k ⟨0, 0, 0⟩).j = xj at *
      generalize (l.getD k ⟨0, 0, 0⟩).b = xb at *
      have hn := hneq xi xj xb
      have h3 : ((k : Int) * 3).toNat = k * 3 := by omega
      have HD := Lib.hid hd
      clear hd
      go_wp2_with fail
      refine wp_region_quiet_lit (by kernel_rfl) (by kernel_rfl) ?_
      repeat (first
        | (go_big_quiet_want; refine quiet_load 100 _ rfl _ rfl _ hl1 ?_; go_simp; go_big_quiet_on)
        | (go_big_quiet_want; refine quiet_load 100 _ rfl _ rfl _ hl2 ?_; go_simp; go_big_quiet_on)
        | go_big_quiet_step (fail))
      refine wpQuiet_nil ?_
      rintro _ ⟨nq, rfl⟩
      go_wp2_with fail
      exact ⟨⟨k + 1, by omega, by go_num, HD.out.drewN _⟩, by simp [intOf]; omega⟩
    · have hkk : ¬ (k : Int) < m := by omega
      go_wp2_with fail
      go_ret
      exact ⟨rfl, hd⟩

/-- What a search for few bounds, classes, bytes tells, whoever tells it. -/
def FindL (p : Value) (f : Nat) (e : Int) (fl : List Lim) (w : World) : Prop :=
  ∀ W, New w W → Calls Try.prog f #[p] W fun x w' => ∃ v, x = .returned (.tuple #[v, .int .i64 e]) ∧ w'.ownsRow W.heap.size 100 3 v fl.length (limRow fl) ∧ New W w'
def FindC (p : Value) (f : Nat) (e : Int) (cls : List (List Nat)) (w : World) : Prop :=
  ∀ W, New w W → Calls Try.prog f #[p] W fun x w' => ∃ v, x = .returned (.tuple #[v, .int .i64 e]) ∧ LolAt W.heap.size w' v cls ∧ New W w'
def FindB (p : Value) (f : Nat) (e : Int) (bs : List Int) (w : World) : Prop :=
  ∀ W, New w W → Calls Try.prog f #[p] W fun x w' => ∃ v, x = .returned (.tuple #[v, .int .i64 e]) ∧ w'.ownsRow W.heap.size 5 1 v bs.length (ints8 bs) ∧ New W w'
theorem FindL.of (p : Value) (f : Nat) (e : Int) (fl : List Lim) {w w' : World} (h : FindL p f e fl w) (hn : New w w') : FindL p f e fl w' := fun W hW => h W (hn.trans hW)
theorem FindC.of (p : Value) (f : Nat) (e : Int) (cls : List (List Nat)) {w w' : World} (h : FindC p f e cls w) (hn : New w w') : FindC p f e cls w' := fun W hW => h W (hn.trans hW)
theorem FindB.of (p : Value) (f : Nat) (e : Int) (bs : List Int) {w w' : World} (h : FindB p f e bs w) (hn : New w w') : FindB p f e bs w' := fun W hW => h W (hn.trans hW)
theorem nats_ints (l : List Nat) : nats l = (l.map fun i : Nat => (i : Int)).map (Value.int .i64) := by simp [nats]
set_option maxRecDepth 100000 in
set_option maxHeartbeats 4000000 in
theorem finds_main (n : Int) (v : Value) (w : World) (e1 e2 e3 : Int) (fl : List Lim) (cls : List (List Nat)) (bs : List Int) (hfl : fl.length ≤ 1000) (hcl : cls.length ≤ 9) (hrow : ∀ k, (cls.getD k []).length ≤ 9) (hbs : bs.length ≤ 1000)
    (hp : Calls Try.prog 26 #[.int .i64 n, v] w fun e w1 => ∃ p c0, e = .returned (.tuple #[p, .int .i64 c0]) ∧ New w w1 ∧ FindL p 67 e1 fl w1 ∧ FindC p 70 e2 cls w1 ∧ FindB p 72 e3 bs w1)
    (hr : ∀ w1, New w w1 → Calls Try.prog 68 #[.int .i64 n, v] w1 fun e w2 => ∃ r c1, e = .returned (.tuple #[r, .int .i64 c1]) ∧ New w1 w2 ∧ FindL r 69 e1 fl w2 ∧ FindC r 71 e2 cls w2 ∧ FindB r 73 e3 bs w2) :
    Calls Try.prog 14 #[.int .i64 n, v] w fun e w' => e = .returned (.bool true) ∧ Below w.heap.size w w' := by
  have HP := Lib.hid hp
  have HR := Lib.hid hr
  have LV := Lib.hid live25_any
  have HROW := Lib.hid hrow
  obtain ⟨mf, hmf⟩ : ∃ m, fl.length = m := ⟨_, rfl⟩
  obtain ⟨mc, hmc⟩ : ∃ m, cls.length = m := ⟨_, rfl⟩
  obtain ⟨mb, hmb⟩ : ∃ m, bs.length = m := ⟨_, rfl⟩
  have HMF := Lib.hid hmf
  have HMC := Lib.hid hmc
  have HMB := Lib.hid hmb
  rw [hmf] at hfl
  rw [hmc] at hcl
  rw [hmb] at hbs
  clear hp hr hrow hmf hmc hmb
  go_enter Try.func14, Try.ntmps14
  go_wp2_with fail
  refine HP.out.mono ?_
  rintro e w1 ⟨p, c0, rfl, hn1, hL, hC, hB⟩
  have N1 := Lib.hid hn1
  have FL := Lib.hid hL
  have FC := Lib.hid hC
  have FB := Lib.hid hB
  clear hn1 hL hC hB HP
  go_wp2_with fail
  refine (HR.out w1 N1.out).mono ?_
  rintro e w2 ⟨r, c1, rfl, hn2, hL, hC, hB⟩
  have N2 := Lib.hid hn2
  have RL := Lib.hid hL
  have RC := Lib.hid hC
  have RB := Lib.hid hB
  clear hn2 hL hC hB HR
  go_wp2_with fail
  refine (FL.out w2 N2.out).mono ?_
  rintro e w3 ⟨v3, rfl, ho3, hn3⟩
  rw [HMF.out] at ho3
  obtain ⟨A3, c3, hv⟩ := own_form ho3
  subst hv
  have O3 := Lib.hid ho3
  have N3 := Lib.hid hn3
  clear ho3 hn3 FL
  go_wp2_with fail
  refine (RL.out w3 N3.out).mono ?_
  rintro e w4 ⟨v4, rfl, ho4, hn4⟩
  rw [HMF.out] at ho4
  obtain ⟨A4, c4, hv⟩ := own_form ho4
  subst hv
  have O4 := Lib.hid ho4
  have N4 := Lib.hid (N3.out.trans hn4)
  have N4' := Lib.hid hn4
  clear ho4 hn4 RL
  go_wp2_with fail
  refine (FC.out w4 (N2.out.trans N4.out)).mono ?_
  rintro e w5 ⟨v5, rfl, hl5, hn5⟩
  obtain ⟨A5, c5, hv⟩ := hl5.form
  rw [HMC.out] at hv
  subst hv
  have L5 := Lib.hid hl5
  have N5 := Lib.hid (N4.out.trans hn5)
  have N5' := Lib.hid hn5
  clear hl5 hn5 FC
  go_wp2_with fail
  refine (RC.out w5 N5.out).mono ?_
  rintro e w6 ⟨v6, rfl, hl6, hn6⟩
  obtain ⟨A6, c6, hv⟩ := hl6.form
  rw [HMC.out] at hv
  subst hv
  have L6 := Lib.hid hl6
  have N6 := Lib.hid (N5.out.trans hn6)
  have N6' := Lib.hid hn6
  clear hl6 hn6 RC
  go_wp2_with fail
  refine (FB.out w6 (N2.out.trans N6.out)).mono ?_
  rintro e w7 ⟨v7, rfl, ho7, hn7⟩
  rw [HMB.out] at ho7
  obtain ⟨A7, c7, hv⟩ := own_form ho7
  subst hv
  have O7 := Lib.hid ho7
  have N7 := Lib.hid (N6.out.trans hn7)
  have N7' := Lib.hid hn7
  clear ho7 hn7 FB
  go_wp2_with fail
  refine (RB.out w7 N7.out).mono ?_
  rintro e w8 ⟨v8, rfl, ho8, hn8⟩
  rw [HMB.out] at ho8
  obtain ⟨A8, c8, hv⟩ := own_form ho8
  subst hv
  have O8 := Lib.hid ho8
  have N8 := Lib.hid (N7.out.trans hn8)
  have N8' := Lib.hid hn8
  clear ho8 hn8 RB
  go_wp2_with fail
  refine (LV.out w8).mono ?_
  rintro e w9 ⟨rfl, hn9⟩
  have N9 := Lib.hid (N8.out.trans hn9)
  have S1 := slims_any A3 A4 c3 c4 fl w9 (((elems_of_own O3.out).new (((N4'.out.trans N5'.out).trans N6'.out).trans ((N7'.out.trans N8'.out).trans hn9)) (Nat.le_refl _)).mono ((((N4'.out.trans N5'.out).trans N6'.out).trans ((N7'.out.trans N8'.out).trans hn9)).size))
    (((elems_of_own O4.out).new ((N5'.out.trans N6'.out).trans ((N7'.out.trans N8'.out).trans hn9)) (Nat.le_refl _)).mono (((N5'.out.trans N6'.out).trans ((N7'.out.trans N8'.out).trans hn9)).size)) (by rw [HMF.out]; omega)
  rw [HMF.out] at S1
  have HS1 := Lib.hid S1
  have HN9 := Lib.hid hn9
  clear S1 hn9
  have ee1 : (e1 != e1) = false := by simp
  have ee2 : (e2 != e2) = false := by simp
  have ee3 : (e3 != e3) = false := by simp
  have ee1' : (e1 == e1) = true := by simp
  have ee2' : (e2 == e2) = true := by simp
  have ee3' : (e3 == e3) = true := by simp
  have emm : ((mc : Int) == (mc : Int)) = true := by simp
  go_wp2_with fail
  refine HS1.out.mono ?_
  rintro e w10 ⟨rfl, hd10⟩
  have N10 := Lib.hid (N9.out.trans hd10.new)
  have hN8 : New w8 w10 := HN9.out.trans hd10.new
  have S2 := same_any A7 A8 c7 c8 bs bs w10 (((elems_of_own O7.out).new (N8'.out.trans hN8) (Nat.le_refl _)).mono (N8'.out.trans hN8).size) (((elems_of_own O8.out).new hN8 (Nat.le_refl _)).mono hN8.size) (by rw [HMB.out]; omega)
  rw [HMB.out, decide_eq_true rfl] at S2
  have HS2 := Lib.hid S2
  have HL5 := Lib.hid (L5.out.new (N6'.out.trans ((N7'.out.trans N8'.out).trans hN8)))
  have HL6 := Lib.hid (L6.out.new ((N7'.out.trans N8'.out).trans hN8))
  clear S2 hN8 hd10 HS1
  go_wp2_with fail
  refine HS2.out.mono ?_
  rintro e w11 ⟨rfl, hd11⟩
  have N11 := Lib.hid (N10.out.trans hd11.new)
  have HD11 := Lib.hid hd11
  clear hd11 HS2
  go_wp2_with fail
  go_loopw [21] (fun ci wr => ∃ k : Nat, k ≤ mc ∧ ci = .int .i64 k ∧ Hid (Drew w10 wr)) (fun cn _ => mc - (intOf cn).toNat)
  case atStart => exact ⟨0, by omega, rfl, HD11⟩
  case round =>
    obtain ⟨k, hk, rfl, HD⟩ := hrel
    by_cases hlt : k < mc
    · have hkk : (k : Int) < mc := by omega
      have h5 := HL5.out.new HD.out.new
      have h6 := HL6.out.new HD.out.new
      rw [← HMC.out] at h5 h6
      obtain ⟨vs5, ⟨a5, o5, hA5, hr5⟩, hw5⟩ := h5.reads (by rw [HMC.out]; omega)
      obtain ⟨vs6, ⟨a6, o6, hA6, hr6⟩, hw6⟩ := h6.reads (by rw [HMC.out]; omega)
      subst hA5
      subst hA6
      have s5 := hr5 wr (New.refl wr) k (by rw [HMC.out]; exact hlt)
      have s6 := hr6 wr (New.refl wr) k (by rw [HMC.out]; exact hlt)
      have q5 := hw5 k (by rw [HMC.out]; exact hlt)
      have q6 := hw6 k (by rw [HMC.out]; exact hlt)
      obtain ⟨B5, d5, hv5⟩ := own_form q5
      obtain ⟨B6, d6, hv6⟩ := own_form q6
      rw [hv5] at s5 q5
      rw [hv6] at s6 q6
      have hrl := HROW.out k
      have SI := fun n => sameInts_any B5 B6 d5 d6 (((cls.getD k []).map fun i : Nat => (i : Int))) (((cls.getD k []).map fun i : Nat => (i : Int))) (wr.drewN n)
        (by rw [← nats_ints]; exact elems_of_own (own_new q5 ((New.refl wr).drewN n))) (by rw [← nats_ints]; exact elems_of_own (own_new q6 ((New.refl wr).drewN n))) (by rw [List.length_map]; omega)
      simp only [List.length_map, decide_true] at SI
      have HSI := Lib.hid (fun n => Calls.quiet_of (SI n))
      generalize (cls.getD k []).length = nk at *
      clear h5 h6 hr5 hw5 hr6 hw6 q5 q6 hv5 hv6 hrl SI
      go_wp2_with fail
      go_quiet ((go_at_call 37; with_reducible exact HSI.out _))
      go_wp2_with fail
      exact ⟨⟨k + 1, by omega, by go_num, HD.out.drewN _⟩, by simp [intOf]; omega⟩
    · have hkk : ¬ (k : Int) < mc := by omega
      go_wp2_with fail
      go_ret
      exact ⟨rfl, (((N1.out.trans N2.out).trans N10.out).trans HD.out.new).below (Nat.le_refl _)⟩
theorem LolAt.none (base : Nat) (w : World) : LolAt base w (.slice none 0 0) [] := ⟨[], rfl, World.ownsRow_nil _ _ _ _, (fun i u h => by simp at h), fun i j u u' g _ h => by simp at h⟩
theorem finds_any (n : Int) (A : Option Addr) (c : Nat) (l : List Int) (w : World) (hl : BoundsIn w A l) :
    Calls Try.prog 14 #[.int .i64 n, .slice A l.length c] w fun e w' => e = .returned (.bool true) ∧ Below w.heap.size w w' := by
  have hof := of_any n A l.length c l w rfl hl.1
  have hrf := fun w1 (hn : New w w1) => rof_any n A c l w1 ((hl.1.new hn (Nat.le_refl _)).mono hn.size) hl.2.1 hl.2.2
  cases hq : ofZ n l with
  | err k =>
    rw [hq] at hof
    refine finds_main n _ w 1 1 1 [] [] [] (by simp) (by simp) (by simp) (by simp) (hof.mono ?_) (fun w1 hn => (hrf w1 hn).mono ?_)
    · rintro e w1 ⟨he, hn⟩
      refine ⟨_, _, he, hn, fun W hW => (fewB_nil W).mono ?_, fun W hW => (classes_nil W).mono ?_, fun W hW => (pack_nil W).mono ?_⟩
      · rintro e w' ⟨rfl, rfl⟩; exact ⟨_, rfl, World.ownsRow_nil _ _ _ _, New.refl _⟩
      · rintro e w' ⟨rfl, rfl⟩; exact ⟨_, rfl, LolAt.none _ _, New.refl _⟩
      · rintro e w' ⟨rfl, rfl⟩; exact ⟨_, rfl, World.ownsRow_nil _ _ _ _, New.refl _⟩
    · rintro e w2 ⟨he, hn⟩
      rw [hq] at he
      refine ⟨_, _, he, hn, fun W hW => (rfew_nil W).mono ?_, fun W hW => (rclasses_nil W).mono ?_, fun W hW => (rpack_nil W).mono ?_⟩
      · rintro e w' ⟨rfl, rfl⟩; exact ⟨_, rfl, World.ownsRow_nil _ _ _ _, New.refl _⟩
      · rintro e w' ⟨rfl, rfl⟩; exact ⟨_, rfl, LolAt.none _ _, New.refl _⟩
      · rintro e w' ⟨rfl, rfl⟩; exact ⟨_, rfl, World.ownsRow_nil _ _ _ _, New.refl _⟩
  | ok Z =>
    rw [hq] at hof
    obtain ⟨k, rfl, hk, _, hg, hlen⟩ := ofZ_good hq
    have hb9 : (packB ⟨k, Z⟩).length ≤ 1000 := by
      have h1 := packTo_length ⟨k, Z⟩ _ (Nat.le_refl _)
      have h2 := (fewN_small hg).1
      unfold packB
      omega
    have hf9 : (fewN ⟨k, Z⟩).length ≤ 1000 := by have h2 := (fewN_small hg).1; omega
    have hzat : ∀ {w1 : World} {g : Nat}, Row w1 g 177 (zoneRow (k : Int) Z) → ZoneAt w1 g ⟨k, Z⟩ := fun hr => ⟨hr, hlen, hk⟩
    have hle := hg.le1
    by_cases h0 : Z = zeros
    · subst h0
      refine finds_main k _ w 0 14 0 (fewN ⟨k, zeros⟩) [] (packB ⟨k, zeros⟩) hf9 (by simp) (by simp) hb9 (hof.mono ?_) (fun w1 hn => (hrf w1 hn).mono ?_)
      · rintro e w1 ⟨⟨g, he, hgw, hr⟩, hn⟩
        have hz := hzat hr
        refine ⟨_, _, he, hn, fun W hW => few_all g _ W (hz.new hW) hg, fun W hW => (classes_empty g _ W (hz.new hW) zeros_empty).mono ?_, fun W hW => pack_any g _ W (hz.new hW) hg⟩
        rintro e w' ⟨k, rfl, rfl, rfl⟩; exact ⟨_, rfl, LolAt.none _ _, New.refl _⟩
      · rintro e w2 ⟨hz, hn⟩
        rw [hq] at hz
        obtain ⟨g, he, hgw, hz⟩ := hz
        refine ⟨_, _, he, hn, fun W hW => rfew_all g _ W (hz.new hW) hg, fun W hW => (rclasses_empty g _ W (hz.new hW) hle zeros_empty).mono ?_, fun W hW => rpack_any g _ W (hz.new hW) hg⟩
        rintro e w' ⟨rfl, rfl⟩; exact ⟨_, rfl, LolAt.none _ _, New.refl _⟩
    · have hcl : ZCl k Z := hg.2.resolve_left h0
      have hok := classesL_ok Z k hk
      refine finds_main k _ w 0 0 0 (fewN ⟨k, Z⟩) (classesL Z k) (packB ⟨k, Z⟩) hf9 hok.1 (fun i => ?_) hb9 (hof.mono ?_) (fun w1 hn => (hrf w1 hn).mono ?_)
      · by_cases hi : i < (classesL Z k).length
        · exact (hok.2 i hi).2.1
        · rw [List.getD_eq_getElem?_getD, List.getElem?_eq_none (by omega)]; exact Nat.zero_le _
      · rintro e w1 ⟨⟨g, he, hgw, hr⟩, hn⟩
        have hz := hzat hr
        exact ⟨_, _, he, hn, fun W hW => few_all g _ W (hz.new hW) hg, fun W hW => classes_any g _ W (hz.new hW) hcl.not_empty hcl.cells32, fun W hW => pack_any g _ W (hz.new hW) hg⟩
      · rintro e w2 ⟨hz, hn⟩
        rw [hq] at hz
        obtain ⟨g, he, hgw, hz⟩ := hz
        exact ⟨_, _, he, hn, fun W hW => rfew_all g _ W (hz.new hW) hg, fun W hW => rclasses_any g _ W (hz.new hW) hcl, fun W hW => rpack_any g _ W (hz.new hW) hg⟩
end Go.Proofs.Ytapfihlgemejiaa
