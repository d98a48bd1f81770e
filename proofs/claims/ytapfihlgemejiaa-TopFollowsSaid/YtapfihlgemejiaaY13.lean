/- gnomontop.TopFollows: the walk. -/
import Derived.Test.YtapfihlgemejiaaY8
import Derived.Test.YtapfihlgemejiaaY10
import Derived.Test.YtapfihlgemejiaaY12
import Derived.Test.YtapfihlgemejiaaF6
import Derived.Test.YtapfihlgemejiaaN14
namespace Go.Proofs.Ytapfihlgemejiaa
open Go.RowKit Go.Proofs.YtapfihlgemejiaaW.PrintLast
def r9aT : Bool × List (List Nat × List Nat) := (true, [([], []), ([0], [0]), ([], []), ([2], [2]), ([1, 3], [1, 3]), ([], []), ([5], [5]), ([], []), ([7], [7]), ([6, 8, 4], [6, 8]), ([4, 9, 0, 1, 2, 3, 4], [4]), ([9, 10, 0, 1, 2, 3, 4, 5, 6, 7, 8, 9, 10], [9])])
def r9aB : List Nat := [0, 1, 0, 4, 15, 0, 32, 0, 128, 511, 1023, 2047]
theorem r9aTab : rtab .any (opsOf Try.f9 14) = r9aT := by kernel_rfl
theorem r9aBits : waitsOk r9aT.2 r9aB = true := by kernel_rfl
def r9bT : Bool × List (List Nat × List Nat) := (true, [([], []), ([], []), ([0, 1], [0, 1]), ([2], [2]), ([], []), ([], []), ([4, 5], [4, 5]), ([6], [6]), ([3, 7], [3, 7]), ([8], [8]), ([9], [9]), ([9], [9]), ([], []), ([12, 10, 8, 0, 1, 2, 3, 4, 5, 6, 7, 8, 9, 10, 12], [10, 12]), ([11, 13, 0, 1, 2, 3, 4, 5, 6, 7, 8, 9, 10, 11, 12, 13], [11])])
def r9bB : List Nat := [0, 0, 3, 7, 0, 0, 48, 112, 255, 511, 1023, 1023, 0, 6143, 16383]
theorem r9bTab : rtab .any (opsOf Try.f9 16) = r9bT := by kernel_rfl
theorem r9bBits : waitsOk r9bT.2 r9bB = true := by kernel_rfl
def r9cT : Bool × List (List Nat × List Nat) := (true, [([], []), ([], []), ([], []), ([], []), ([2, 3], [2, 3]), ([4], [4]), ([], []), ([6], [6]), ([5, 7], [5, 7]), ([8], [8]), ([9], [9]), ([9], [9]), ([0, 1, 0, 1, 2, 3, 4, 5, 6, 7, 8, 9, 10], [0, 1]), ([12, 10, 8, 0, 1, 2, 3, 4, 5, 6, 7, 8, 9, 10], [10, 12]), ([11, 13, 0, 1, 2, 3, 4, 5, 6, 7, 8, 9, 10, 11, 12, 13], [11])])
def r9cB : List Nat := [0, 0, 0, 0, 12, 28, 0, 64, 252, 508, 1020, 1020, 2047, 6143, 16383]
theorem r9cTab : rtab .any (opsOf Try.f9 24) = r9cT := by kernel_rfl
theorem r9cBits : waitsOk r9cT.2 r9cB = true := by kernel_rfl
theorem ratRow_set : ∀ (r : List (Int × Int)) (i : Nat) (a b : Int), i < r.length → ((ratRow r).set (i * 2) (.int .i64 a)).set (i * 2 + 1) (.int .i64 b) = ratRow (r.set i (a, b))
  | p :: r, 0, a, b, _ => rfl
  | p :: r, i + 1, a, b, h => by
    have h1 := ratRow_set r i a b (by simpa using h)
    have e : ∀ (q : Int × Int) (t : List (Int × Int)), ratRow (q :: t) = .int .i64 q.1 :: .int .i64 q.2 :: ratRow t := fun _ _ => rfl
    rw [List.set_cons_succ, e, e, ← h1, show (i + 1) * 2 = i * 2 + 1 + 1 by omega]
    simp only [List.set_cons_succ]
theorem infoOf75 : (Try.prog.info? 75).map (fun i => (i.zero, i.size, i.bytes)) = some (some (.agg #[.int .i64 0, .int .i64 0]), 2, 16) := by kernel_rfl
theorem make_vals (w : World) {n : Nat} (h1 : 1 ≤ n) (h3 : n ≤ 3) : ∃ w', (Instr.makeSlice 92 (.int .i64 ((n : Int) + 1)) (.int .i64 ((n : Int) + 1))).run Try.prog w = .ok (.slice (some ⟨w.heap.size, 0, none⟩) (n + 1) (n + 1)) w' ∧
      Row w' w.heap.size 75 (ratRow (List.replicate (n + 1) (0, 0))) ∧ New w w' := by
  obtain ⟨i0, hi0, hz0, hz1, hz2⟩ := info_parts infoOf75
  have h := run_make (P := Try.prog) w 92 75 i0 (.agg #[.int .i64 0, .int .i64 0]) Try.underlying92 hi0 hz0 .i64 .i64 ((n : Int) + 1) ((n : Int) + 1) (by omega) (Int.le_refl _) (by rw [hz2]; omega) (by omega)
  rw [show ((n : Int) + 1).toNat = n + 1 by omega, hz1] at h
  refine ⟨_, h, ?_, (New.refl w).alloc _⟩
  have e : madeCells (Value.agg #[.int .i64 0, .int .i64 0]).cells ((n + 1) * 2) = (ratRow (List.replicate (n + 1) (0, 0))).toArray := by
    rcases (by omega : n = 1 ∨ n = 2 ∨ n = 3) with rfl | rfl | rfl <;> kernel_rfl
  rw [e]
  exact Row.new w 75 _

/-- What holds on the way: the zone in block b, the valuation in block gv, after k deeds. -/
structure St (w W : World) (gv b n k : Nat) (Z : List Int) (r : List (Int × Int)) (V : Nat → Int) : Prop where
  zone : ZoneAt W b ⟨n, Z⟩
  row : Row W gv 75 (ratRow r)
  val : ValIs n r V
  tz : TZ n k Z V
  low : w.heap.size ≤ gv
  below : Below w.heap.size w W
section
variable {w W W' : World} {gv b n k : Nat} {Z : List Int} {r : List (Int × Int)} {V : Nat → Int}
theorem St.new (h : St w W gv b n k Z r V) (hn : New W W') : St w W' gv b n k Z r V :=
  ⟨h.zone.new hn, hn.row h.row, h.val, h.tz, h.low, h.below.trans (hn.below h.below.size)⟩
theorem St.skip (h : St w W gv b n k Z r V) : St w W gv b n (k + 1) Z r V := ⟨h.zone, h.row, h.val, h.tz.skip, h.low, h.below⟩
theorem St.empty (h : St w W gv b n k Z r V) : Calls Try.prog 56 #[.pointer (some ⟨b, 0, none⟩)] W fun e w' => e = .returned (.bool false) ∧ W = w' := by
  have h1 := empty_any b ⟨n, Z⟩ W h.zone
  rwa [show emptyB (Zn.mk n Z).Z = false from h.tz.not_empty] at h1
theorem St.holds (h : St w W gv b n k Z r V) (cap : Nat) : Calls Try.prog 57 #[.pointer (some ⟨b, 0, none⟩), .slice (some ⟨gv, 0, none⟩) (n + 1) cap] W fun e w' => e = .returned (.bool true) ∧ New W w' :=
  holds_yes b gv cap ⟨n, Z⟩ r V W h.zone h.row h.val (fun p q hp hq => by
    by_cases e : cellN Z p q = INF
    · exact .inl e
    · exact .inr ⟨(h.tz.cl.rng p q hp hq).resolve_left e, h.tz.keep p q hp hq e⟩)
theorem St.cells (h : St w W gv b n k Z r V) {i : Nat} (hi : i ≤ n) : W.cell? ⟨gv, i * 2, none⟩ = some (.int .i64 (r.getD i (0, 0)).1) ∧ W.cell? ⟨gv, i * 2 + 1, none⟩ = some (.int .i64 (r.getD i (0, 0)).2) := by
  obtain ⟨e1, e2⟩ := ratRow_get r i (by rw [h.val.1]; omega)
  exact ⟨(h.row.cell _).trans e1, (h.row.cell _).trans e2⟩
end
def ddC (x : Dd) : List Value := [.int .i64 x.kind, .int .i64 x.num, .int .i64 x.den, .int .i64 x.i, .int .i64 x.j, .int .i64 x.n, .int .i32 x.b]
theorem DdAt.of_block {w w' : World} {b o : Nat} {x : Dd} (h : DdAt w b o x) (hb : w'.heap[b]? = w.heap[b]?) : DdAt w' b o x := by
  have e : ∀ k, w'.cell? ⟨b, k, none⟩ = w.cell? ⟨b, k, none⟩ := fun k => World.cell?_of_block hb
  exact ⟨(e _).trans h.c0, (e _).trans h.c1, (e _).trans h.c2, (e _).trans h.c3, (e _).trans h.c4, (e _).trans h.c5, (e _).trans h.c6, h.rn, h.rd, h.rb⟩
theorem mod_nat (a : Int) (n : Nat) : ∃ i : Nat, a % ((n : Int) + 1) = i ∧ i ≤ n := by
  have h1 := Int.emod_nonneg a (show (n : Int) + 1 ≠ 0 by omega)
  have h2 := Int.emod_lt_of_pos a (show (0 : Int) < (n : Int) + 1 by omega)
  exact ⟨(a % ((n : Int) + 1)).toNat, by omega, by omega⟩
theorem St.val_set {n : Nat} {r : List (Int × Int)} {V V' : Nat → Int} (h : ValIs n r V) {i : Nat} (hi : i ≤ n) {a b : Int} (hab : RatIs a b (V' i)) (h0 : 0 ≤ V' i) (h1 : V' i ≤ 1000000) (hV : ∀ t, t ≤ n → t ≠ i → V' t = V t) : ValIs n (r.set i (a, b)) V' := by
  refine ⟨by rw [List.length_set]; exact h.1, fun t ht => ?_⟩
  rw [List.getD_eq_getElem?_getD, List.getElem?_set]
  by_cases e : i = t
  · subst e
    rw [if_pos rfl, if_pos (by rw [h.1]; omega)]
    exact ⟨hab, h0, h1⟩
  · rw [if_neg e, ← List.getD_eq_getElem?_getD, hV t ht (fun e2 => e e2.symm)]; exact h.2 t ht
/-- The valuation while time is added, clock by clock. -/
def Vc (V : Nat → Int) (d : Int) (m t : Nat) : Int := if t ≠ 0 ∧ t < m then V t + d else V t
set_option maxRecDepth 100000 in
set_option maxHeartbeats 8000000 in
theorem topFollows_any (clocks : Int) (A : Option Addr) (c : Nat) (l : List Dd) (w : World) (hl : DdsAt w A l) :
    Calls Try.prog 9 #[.int .i64 clocks, .slice A l.length c] w fun e w' => e = .returned (.bool true) ∧ Below w.heap.size w w' := by
  have HL := Lib.hid hl.2
  have hlen := hl.1
  clear hl
  obtain ⟨n, hn⟩ : ∃ n : Nat, (n : Int) = clocks % 3 + 1 := ⟨(clocks % 3 + 1).toNat, by have := Int.emod_nonneg clocks (show (3 : Int) ≠ 0 by decide); omega⟩
  have n1 : 1 ≤ n := by have := Int.emod_nonneg clocks (show (3 : Int) ≠ 0 by decide); omega
  have n3 : n ≤ 3 := by have := Int.emod_lt_of_pos clocks (show (0 : Int) < 3 by decide); omega
  have WI := Lib.hid (fun a m (h0 : 0 < m) (h1 : m ≤ 1000000) W => which_any a m h0 h1 W)
  have hw3 : IntKind.i64.wrap (clocks % 3 + 1) = (n : Int) := by rw [← hn, IntKind.wrap_i64]; omega
  go_enter Try.func9, Try.ntmps9
  go_wp2_with fail
  refine (WI.out clocks 3 (by decide) (by decide) w).mono ?_
  rintro e w1 ⟨rfl, rfl⟩
  go_wp2_with fail
  rw [← hn]
  refine (zero_main n w (by omega)).mono ?_
  rintro e w1 ⟨hz, hn1⟩
  rw [zeroZ_ones n1 n3] at hz
  obtain ⟨b0, rfl, hb0, hr0⟩ := hz
  obtain ⟨w2, hmk, hrow2, hn2⟩ := make_vals w1 n1 n3
  have hzone2 : ZoneAt w2 b0 ⟨n, ones n⟩ := ⟨hn2.row hr0, by simp [ones], by show n ≤ 8; omega⟩
  have HZ2 := Lib.hid hzone2
  have HR2 := Lib.hid hrow2
  have HN2 := Lib.hid (hn1.trans hn2)
  have HLOW := Lib.hid hn1.size
  clear hn hw3 hr0 hzone2 hrow2 hn2 hb0
  have hwn : IntKind.i64.wrap ((n : Int) + 1) = (n : Int) + 1 := by rw [IntKind.wrap_i64]; omega
  generalize hgv : w1.heap.size = gv at *
  clear hn1 hgv
  go_wp2_with fail
  clear hmk
  go_loopw [9] (fun ci wr => ∃ i : Nat, ∃ r : List (Int × Int), i ≤ n + 1 ∧ ci = .int .i64 i ∧ r.length = n + 1 ∧ (∀ t, t < i → r.getD t (0, 0) = (0, 1)) ∧ Hid (ZoneAt wr b0 ⟨n, ones n⟩ ∧ Row wr gv 75 (ratRow r) ∧ New w wr)) (fun ci _ => n + 1 - (intOf ci).toNat)
  case atStart => exact ⟨0, _, Nat.zero_le _, by go_num, by simp, fun t ht => absurd ht (Nat.not_lt_zero _), ⟨HZ2.out, HR2.out, HN2.out⟩⟩
  case round =>
    clear HZ2 HR2 HN2
    obtain ⟨i, r, hi, rfl, hrl, hrt, HK⟩ := hrel
    by_cases hlt : i < n + 1
    · have hiz : (i : Int) ≤ n := by omega
      obtain ⟨e1, e2⟩ := ratRow_get r i (by omega)
      go_wp2_with fail
      refine (of_rat 0 wr).mono ?_
      rintro e w5 ⟨rfl, hn5⟩
      have hr5 := hn5.row HK.out.2.1
      have c1 := (hr5.cell _).trans e1
      have c2 := (hr5.cell _).trans e2
      have f1 := hr5.free (i * 2)
      have f2 := hr5.free (i * 2 + 1)
      have hr6 := (hr5.set (i * 2) (.int .i64 0)).set (i * 2 + 1) (.int .i64 1)
      rw [ratRow_set r i 0 1 (by omega)] at hr6
      have hz6 : ZoneAt ((w5.setCell ⟨gv, i * 2, none⟩ (.int .i64 0)).setCell ⟨gv, i * 2 + 1, none⟩ (.int .i64 1)) b0 ⟨n, ones n⟩ := by
        have hz5 := HK.out.1.new hn5
        have hne : b0 ≠ gv := hz5.row.ne hr5 (by decide)
        exact ⟨(hz5.row.far (p := ⟨gv, i * 2, none⟩) hne _).far (p := ⟨gv, i * 2 + 1, none⟩) hne _, hz5.len, hz5.dim⟩
      have hn6 : New w ((w5.setCell ⟨gv, i * 2, none⟩ (.int .i64 0)).setCell ⟨gv, i * 2 + 1, none⟩ (.int .i64 1)) := ((HK.out.2.2.trans hn5).set (p := ⟨gv, i * 2, none⟩) (.inr HLOW.out) _).set (p := ⟨gv, i * 2 + 1, none⟩) (.inr HLOW.out) _
      have HQ := Lib.hid (And.intro hz6 (And.intro hr6 hn6))
      have HRL := Lib.hid hrl
      have HRT := Lib.hid hrt
      have HI := Lib.hid hlt
      clear hr5 hr6 hz6 hn6 hn5 e1 e2 HK hrl hrt hlt
      go_wp2_with fail
      refine ⟨⟨i + 1, r.set i (0, 1), HI.out, by go_num, by rw [List.length_set]; exact HRL.out, fun t ht => ?_, HQ⟩, by have := HI.out; simp [intOf] <;> omega⟩
      rw [List.getD_eq_getElem?_getD, List.getElem?_set]
      by_cases e : i = t
      · rw [if_pos e, if_pos (by rw [HRL.out]; exact HI.out)]; rfl
      · rw [if_neg e, ← List.getD_eq_getElem?_getD]; exact HRT.out t (by omega)
    · have hiz : ¬ (i : Int) ≤ n := by omega
      have hst : St w wr gv b0 n 0 (ones n) r (fun _ => 0) := ⟨HK.out.1, HK.out.2.1, ⟨hrl, fun t ht => by
        rw [hrt t (by omega)]
        exact ⟨RatIs.whole 0, Int.le_refl _, by show (0 : Int) ≤ 1000000; decide⟩⟩, TZ.zero n3, HLOW.out, HK.out.2.2.below (Nat.le_refl _)⟩
      have HST0 := Lib.hid hst
      clear hst HK hrl hrt hlt hi
      as_aux_lemma =>
      go_wp2_with fail
      rename World => wa
      generalize ones n = Z0 at *
      generalize (fun _ : Nat => (0 : Int)) = V0 at *
      go_loopw [6, 7, 10] (fun vz ve vk wr => ∃ (k b : Nat) (Z : List Int) (r : List (Int × Int)) (V : Nat → Int), k ≤ l.length ∧ k ≤ 200 ∧ vz = .pointer (some ⟨b, 0, none⟩) ∧ ve = .int .i64 0 ∧ vk = .int .i64 k ∧ Hid (St w wr gv b n k Z r V)) (fun _ _ vk _ => l.length - (intOf vk).toNat)
      case atStart => exact ⟨0, b0, Z0, r, V0, Nat.zero_le _, by omega, rfl, rfl, by go_num, HST0⟩
      case round =>
        clear HST0
        obtain ⟨k, b, Z, r, V, hk, hk200, rfl, rfl, rfl, HST⟩ := hrel
        by_cases hkl : k < l.length ∧ k < 200
        · obtain ⟨hk1, hk2⟩ := hkl
          have hkz : (k : Int) < l.length := by omega
          have hk2z : (k : Int) < 200 := by omega
          obtain ⟨bA, oA, rfl, hbA, hx⟩ := HL.out k l[k] (List.getElem?_eq_getElem hk1)
          generalize l[k] = x at *
          have hxr := hx.of_block (HST.out.below.block bA hbA)
          have c0 := hxr.c0
          have c1 := hxr.c1
          have c2 := hxr.c2
          have c3 := hxr.c3
          have c4 := hxr.c4
          have c5 := hxr.c5
          have c6 := hxr.c6
          have HX := Lib.hid hx
          have HK1 := Lib.hid hk1
          have HK2 := Lib.hid hk2
          obtain ⟨i0, hi0, hi0n⟩ := mod_nat x.i n
          obtain ⟨j0, hj0, hj0n⟩ := mod_nat x.j n
          have WII : Hid (∀ W, Calls Try.prog 40 #[.int .i64 x.i, .int .i64 ((n : Int) + 1)] W fun e w' => e = .returned (.int .i64 (i0 : Int)) ∧ W = w') := Lib.hid fun W => by rw [← hi0]; exact WI.out _ _ (by omega) (by omega) W
          have WIJ : Hid (∀ W, Calls Try.prog 40 #[.int .i64 x.j, .int .i64 ((n : Int) + 1)] W fun e w' => e = .returned (.int .i64 (j0 : Int)) ∧ W = w') := Lib.hid fun W => by rw [← hj0]; exact WI.out _ _ (by omega) (by omega) W
          have HI0 := Lib.hid hi0n
          have HJ0 := Lib.hid hj0n
          clear hx hxr hk1 hk2 hi0 hj0 hi0n hj0n
          go_wp2_with fail
          clear c0 c1 c2 c3 c4 c5 c6
          have hrd : Row (wr.alloc (.cells #[.int .i64 x.kind, .int .i64 x.num, .int .i64 x.den, .int .i64 x.i, .int .i64 x.j, .int .i64 x.n, .int .i32 x.b] 94)) wr.heap.size 94 (ddC x) := Row.new wr 94 (ddC x)
          have hsx := HST.out.new ((New.refl wr).alloc (.cells #[.int .i64 x.kind, .int .i64 x.num, .int .i64 x.den, .int .i64 x.i, .int .i64 x.j, .int .i64 x.n, .int .i32 x.b] 94))
          generalize wr.alloc (.cells #[.int .i64 x.kind, .int .i64 x.num, .int .i64 x.den, .int .i64 x.i, .int .i64 x.j, .int .i64 x.n, .int .i32 x.b] 94) = wx at *
          generalize wr.heap.size = gd at *
          clear HST hbA
          refine start_ (n := 12) (S := fun W => Row W gd 94 (ddC x) ∧ New wx W) (ds := []) #[false, false, false, false, false, false, false, false, false, false, false, false] (by kernel_rfl) rfl rfl ⟨hrd.drew, (New.refl wx).drew⟩ (fun hHeld => ?_); refine with_tabW r9aTab r9aBits (fun HT_ HW_ => ?_)
          clear hrd
          generalize wx.drew = wd at hHeld ⊢
          refine pure_ (i := 0) (N := some 53) (v := ?_) (a' := ?_) #[true, false, false, false, false, false, false, false, false, false, false, false] rfl rfl (any_of HT_.out (by kernel_rfl)) (fun _ _ _ h => h) (Or.inl ⟨by rfl, ?_⟩) ?_ ?_
          rotate_left
          · intro w'
            go_simp
            with_reducible rfl
          rotate_left
          · simp only [Act.put, List.setIfInBounds_toArray, List.set_cons_zero, List.set_cons_succ]
            rfl
          refine pure_ (i := 2) (N := some 55) (v := ?_) (a' := ?_) #[true, false, true, false, false, false, false, false, false, false, false, false] rfl rfl (any_of HT_.out (by kernel_rfl)) (fun _ _ _ h => h) (Or.inl ⟨by rfl, ?_⟩) ?_ ?_
          rotate_left
          · intro w'
            go_simp
            with_reducible rfl
          rotate_left
          · simp only [Act.put, List.setIfInBounds_toArray, List.set_cons_zero, List.set_cons_succ]
            rfl
          refine pure_ (i := 3) (N := some 56) (v := ?_) (a' := ?_) #[true, false, true, true, false, false, false, false, false, false, false, false] rfl rfl (any_of HT_.out (by kernel_rfl)) (fun _ _ _ h => h) (Or.inl ⟨by rfl, ?_⟩) ?_ ?_
          rotate_left
          · intro w'
            go_simp
            with_reducible rfl
          rotate_left
          · simp only [Act.put, List.setIfInBounds_toArray, List.set_cons_zero, List.set_cons_succ]
            rfl
          refine pure_ (i := 5) (N := some 58) (v := ?_) (a' := ?_) #[true, false, true, true, false, true, false, false, false, false, false, false] rfl rfl (any_of HT_.out (by kernel_rfl)) (fun _ _ _ h => h) (Or.inl ⟨by rfl, ?_⟩) ?_ ?_
          rotate_left
          · intro w'
            go_simp
            with_reducible rfl
          rotate_left
          · simp only [Act.put, List.setIfInBounds_toArray, List.set_cons_zero, List.set_cons_succ]
            rfl
          refine pure_ (i := 7) (N := some 60) (v := ?_) (a' := ?_) #[true, false, true, true, false, true, false, true, false, false, false, false] rfl rfl (any_of HT_.out (by kernel_rfl)) (fun _ _ _ h => h) (Or.inl ⟨by rfl, ?_⟩) ?_ ?_
          rotate_left
          · intro w'
            go_simp
            with_reducible rfl
          rotate_left
          · simp only [Act.put, List.setIfInBounds_toArray, List.set_cons_zero, List.set_cons_succ]
            rfl
          refine pure_ (i := 8) (N := some 61) (v := ?_) (a' := ?_) #[true, false, true, true, false, true, false, true, true, false, false, false] rfl rfl (any_of HT_.out (by kernel_rfl)) (fun _ _ _ h => h) (Or.inl ⟨by rfl, ?_⟩) ?_ ?_
          rotate_left
          · intro w'
            go_simp
            with_reducible rfl
          rotate_left
          · simp only [Act.put, List.setIfInBounds_toArray, List.set_cons_zero, List.set_cons_succ]
            rfl
          refine take_ (i := 1) (N := some 54) (v := ?_) (a' := ?_) #[true, true, true, true, false, true, false, true, true, false, false, false] rfl rfl (take_ofW HT_.out HW_.out (by kernel_rfl)) (fun _ _ _ h => h) (Or.inl ⟨by rfl, ?_⟩) hHeld ?_ ?_
          rotate_left
          · intro w' hkt
            have s3 := hkt.1.cell 3
            have s4 := hkt.1.cell 4
            simp only [ddC, List.getElem?_cons_zero, List.getElem?_cons_succ] at s3 s4
            go_simp
            with_reducible rfl
          rotate_left
          · simp only [Act.put, List.setIfInBounds_toArray, List.set_cons_zero, List.set_cons_succ]
            rfl
          refine take_ (i := 6) (N := some 59) (v := ?_) (a' := ?_) #[true, true, true, true, false, true, true, true, true, false, false, false] rfl rfl (take_ofW HT_.out HW_.out (by kernel_rfl)) (fun _ _ _ h => h) (Or.inl ⟨by rfl, ?_⟩) hHeld ?_ ?_
          rotate_left
          · intro w' hkt
            have s3 := hkt.1.cell 3
            have s4 := hkt.1.cell 4
            simp only [ddC, List.getElem?_cons_zero, List.getElem?_cons_succ] at s3 s4
            go_simp
            with_reducible rfl
          rotate_left
          · simp only [Act.put, List.setIfInBounds_toArray, List.set_cons_zero, List.set_cons_succ]
            rfl
          refine one_ (i := 4) (N := some 57) #[true, true, true, true, true, true, true, true, true, false, false, false] rfl rfl (one_of HT_.out (by kernel_rfl)) (by decide) (fun K hK => ?_)
          refine goes_ Try.func40 (by kernel_rfl) rfl #[.int .i64 x.i, .int .i64 ((n : Int) + 1)] (by rfl) rfl rfl (by (try simp only [List.map_toArray, List.map_cons, List.map_nil]); first | done | rfl) ?_
          refine (WII.out wd).mono ?_
          rintro e w3 ⟨rfl, rfl⟩
          refine ⟨_, rfl, ?_⟩
          refine hK.out _ _ hHeld (fun hHeld => ?_)
          clear hK K
          refine norm_ (a' := ?_) ?_ ?_
          rotate_left
          · show Act.put _ (some 57) _ = _
            simp only [Act.put, List.setIfInBounds_toArray, List.set_cons_zero, List.set_cons_succ]
            rfl
          refine one_ (i := 9) (N := some 62) #[true, true, true, true, true, true, true, true, true, true, false, false] rfl rfl (one_of HT_.out (by kernel_rfl)) (by decide) (fun K hK => ?_)
          refine goes_ Try.func40 (by kernel_rfl) rfl #[.int .i64 x.j, .int .i64 ((n : Int) + 1)] (by rfl) rfl rfl (by (try simp only [List.map_toArray, List.map_cons, List.map_nil]); first | done | rfl) ?_
          refine (WIJ.out wd).mono ?_
          rintro e w3 ⟨rfl, rfl⟩
          refine ⟨_, rfl, ?_⟩
          refine hK.out _ _ hHeld (fun hHeld => ?_)
          clear hK K
          refine norm_ (a' := ?_) ?_ ?_
          rotate_left
          · show Act.put _ (some 62) _ = _
            simp only [Act.put, List.setIfInBounds_toArray, List.set_cons_zero, List.set_cons_succ]
            rfl
          refine pure_ (i := 10) (N := some 12) (v := ?_) (a' := ?_) #[true, true, true, true, true, true, true, true, true, true, true, false] rfl rfl (any_of HT_.out (by kernel_rfl)) (fun _ _ _ h => h) (Or.inl ⟨by rfl, ?_⟩) ?_ ?_
          rotate_left
          · intro w'
            go_simp
            with_reducible rfl
          rotate_left
          · simp only [Act.put, List.setIfInBounds_toArray, List.set_cons_zero, List.set_cons_succ]
            rfl
          refine pure_ (i := 11) (N := some 13) (v := ?_) (a' := ?_) #[true, true, true, true, true, true, true, true, true, true, true, true] rfl rfl (any_of HT_.out (by kernel_rfl)) (fun _ _ _ h => h) (Or.inl ⟨by rfl, ?_⟩) ?_ ?_
          rotate_left
          · intro w'
            go_simp
            with_reducible rfl
          rotate_left
          · simp only [Act.put, List.setIfInBounds_toArray, List.set_cons_zero, List.set_cons_succ]
            rfl
          refine done_ (done_of HT_.out (by kernel_rfl)) ?_
          have HSD := Lib.hid (hsx.new hHeld.2)
          have HRD := Lib.hid hHeld.1
          clear hHeld hsx WII WIJ
          have q0 := HRD.out.cell 0
          simp only [ddC, List.getElem?_cons_zero] at q0
          by_cases hkind0 : x.kind = 0
          · as_aux_lemma =>
            rw [hkind0] at q0
            have q1 := HRD.out.cell 1
            have q2 := HRD.out.cell 2
            simp only [ddC, List.getElem?_cons_zero, List.getElem?_cons_succ] at q1 q2
            have RG := Lib.hid (fun W => right_any2 x.num x.den HX.out.rn HX.out.rd W)
            go_wp2_with fail
            refine (RG.out _).mono ?_
            rintro e we ⟨rfl, hne⟩
            have HSE := Lib.hid (HSD.out.new hne)
            have HRE := Lib.hid (hne.row HRD.out)
            have p1 := HRE.out.cell 1
            have p2 := HRE.out.cell 2
            simp only [ddC, List.getElem?_cons_zero, List.getElem?_cons_succ] at p1 p2
            clear hne HSD HRD q0 q1 q2 RG
            cases hR : rightR x.num x.den with
            | false =>
              have HSD := HSE
              have HRD := HRE
              clear HSE HRE
              have HS9 := Lib.hid (HSD.out).skip
              clear HSD HRD
              go_wp2_with fail
              exact ⟨⟨k + 1, b, Z, r, V, HK1.out, HK2.out, rfl, rfl, by go_num, HS9⟩, by have := HK1.out; simp [intOf] <;> omega⟩
            | true =>
              by_cases a1 : x.num < 0
              · clear hR
                have HSD := HSE
                have HRD := HRE
                clear HSE HRE
                have HS9 := Lib.hid (HSD.out).skip
                clear HSD HRD
                go_wp2_with fail
                exact ⟨⟨k + 1, b, Z, r, V, HK1.out, HK2.out, rfl, rfl, by go_num, HS9⟩, by have := HK1.out; simp [intOf] <;> omega⟩
              · by_cases a2 : 100 < x.num
                · clear hR
                  have HSD := HSE
                  have HRD := HRE
                  clear HSE HRE
                  have HS9 := Lib.hid (HSD.out).skip
                  clear HSD HRD
                  go_wp2_with fail
                  exact ⟨⟨k + 1, b, Z, r, V, HK1.out, HK2.out, rfl, rfl, by go_num, HS9⟩, by have := HK1.out; simp [intOf] <;> omega⟩
                · by_cases a3 : 4 < x.den
                  · clear hR
                    have HSD := HSE
                    have HRD := HRE
                    clear HSE HRE
                    have HS9 := Lib.hid (HSD.out).skip
                    clear HSD HRD
                    go_wp2_with fail
                    exact ⟨⟨k + 1, b, Z, r, V, HK1.out, HK2.out, rfl, rfl, by go_num, HS9⟩, by have := HK1.out; simp [intOf] <;> omega⟩
                  · obtain ⟨d, hd, hd0, hd1⟩ := delay_ratIs hR (by omega) (by omega) (by omega)
                    have HDR := Lib.hid hd
                    have HR := Lib.hid hR
                    have HD01 := Lib.hid (And.intro hd0 hd1)
                    have a1' : 0 ≤ x.num := by omega
                    have a2' : x.num ≤ 100 := by omega
                    have a3' : x.den ≤ 4 := by omega
                    clear hd hR hd0 hd1 a1 a2 a3
                    go_wp2_with fail
                    clear p1 p2
                    have HLW := Lib.hid HSE.out.low
                    have HTZ := Lib.hid HSE.out.tz
                    have hv1 : Vc V d 1 = V := by funext t; unfold Vc; rw [if_neg (by omega)]
                    have HS1 : Hid (ZoneAt we b ⟨n, Z⟩ ∧ Row we gv 75 (ratRow r) ∧ ValIs n r (Vc V d 1) ∧ Row we gd 94 (ddC x) ∧ Below w.heap.size w we) := Lib.hid ⟨HSE.out.zone, HSE.out.row, by rw [hv1]; exact HSE.out.val, HRE.out, HSE.out.below⟩
                    clear HSE HRE hv1
                    go_loopw [7, 14] (fun ve vc wr => ∃ (m : Nat) (r3 : List (Int × Int)), 1 ≤ m ∧ m ≤ n + 1 ∧ ve = .int .i64 0 ∧ vc = .int .i64 m ∧ Hid (ZoneAt wr b ⟨n, Z⟩ ∧ Row wr gv 75 (ratRow r3) ∧ ValIs n r3 (Vc V d m) ∧ Row wr gd 94 (ddC x) ∧ Below w.heap.size w wr)) (fun _ vc _ => n + 1 - (intOf vc).toNat)
                    case atStart => exact ⟨1, r, Nat.le_refl _, by omega, rfl, by go_num, HS1⟩
                    case round =>
                      clear HS1
                      obtain ⟨m, r3, hm1, hm2, rfl, rfl, HK3⟩ := hrel
                      by_cases hlt : m < n + 1
                      · have hmz : (m : Int) ≤ n := by omega
                        have hmn : m ≤ n := by omega
                        have hmz1 : (m : Int) < (n : Int) + 1 := by omega
                        have hVm : Vc V d m m = V m := by unfold Vc; rw [if_neg (by omega)]
                        obtain ⟨g1, g2, g3⟩ := HK3.out.2.2.1.2 m hmn
                        rw [hVm] at g1 g2 g3
                        obtain ⟨k1, k2⟩ := rat_in g1 g2 g3
                        obtain ⟨e1, e2⟩ := ratRow_get r3 m (by rw [HK3.out.2.2.1.1]; exact hlt)
                        have ADD := Lib.hid (fun W => add_yes (r3.getD m (0, 0)).1 (r3.getD m (0, 0)).2 x.num x.den k1 k2 HX.out.rn HX.out.rd (by rw [g1.1, HR.out]; rfl) W)
                        have RC : Hid (∀ W, New wr W → W.cell? ⟨gv, m * 2, none⟩ = some (.int .i64 (r3.getD m (0, 0)).1) ∧ W.cell? ⟨gv, m * 2 + 1, none⟩ = some (.int .i64 (r3.getD m (0, 0)).2) ∧ W.cell? ⟨gd, 1, none⟩ = some (.int .i64 x.num) ∧ W.cell? ⟨gd, 2, none⟩ = some (.int .i64 x.den)) := Lib.hid fun W hW =>
                          ⟨((hW.row HK3.out.2.1).cell _).trans e1, ((hW.row HK3.out.2.1).cell _).trans e2, (hW.row HK3.out.2.2.2.1).cell 1, (hW.row HK3.out.2.2.2.1).cell 2⟩
                        have HG := Lib.hid g1
                        have HV2 := Lib.hid (And.intro (HTZ.out.vr m hmn) hVm)
                        clear hVm g1 g2 g3 k1 k2 e1 e2
                        generalize (r3.getD m (0, 0)).1 = aa at *
                        generalize (r3.getD m (0, 0)).2 = bb at *
                        go_wp2_with fail
                        refine start_ (n := 15) (S := fun W => New wr W) (ds := [13]) #[false, false, false, false, false, false, false, false, false, false, false, false, false, false, false] (by kernel_rfl) rfl rfl (New.refl wr).drew (fun hHeld => ?_); refine with_tabW r9cTab r9cBits (fun HT_ HW_ => ?_)
                        generalize wr.drew = wd3 at hHeld ⊢
                        refine pure_ (i := 0) (N := some 137) (v := ?_) (a' := ?_) #[true, false, false, false, false, false, false, false, false, false, false, false, false, false, false] rfl rfl (any_of HT_.out (by kernel_rfl)) (fun _ _ _ h => h) (Or.inl ⟨by rfl, ?_⟩) ?_ ?_
                        rotate_left
                        · intro w'
                          go_simp
                          with_reducible rfl
                        rotate_left
                        · simp only [Act.put, List.setIfInBounds_toArray, List.set_cons_zero, List.set_cons_succ]
                          rfl
                        refine pure_ (i := 1) (N := some 138) (v := ?_) (a' := ?_) #[true, true, false, false, false, false, false, false, false, false, false, false, false, false, false] rfl rfl (any_of HT_.out (by kernel_rfl)) (fun _ _ _ h => h) (Or.inl ⟨by rfl, ?_⟩) ?_ ?_
                        rotate_left
                        · intro w'
                          go_simp
                          with_reducible rfl
                        rotate_left
                        · simp only [Act.put, List.setIfInBounds_toArray, List.set_cons_zero, List.set_cons_succ]
                          rfl
                        refine pure_ (i := 2) (N := some 139) (v := ?_) (a' := ?_) #[true, true, true, false, false, false, false, false, false, false, false, false, false, false, false] rfl rfl (any_of HT_.out (by kernel_rfl)) (fun _ _ _ h => h) (Or.inl ⟨by rfl, ?_⟩) ?_ ?_
                        rotate_left
                        · intro w'
                          go_simp
                          with_reducible rfl
                        rotate_left
                        · simp only [Act.put, List.setIfInBounds_toArray, List.set_cons_zero, List.set_cons_succ]
                          rfl
                        refine pure_ (i := 3) (N := some 140) (v := ?_) (a' := ?_) #[true, true, true, true, false, false, false, false, false, false, false, false, false, false, false] rfl rfl (any_of HT_.out (by kernel_rfl)) (fun _ _ _ h => h) (Or.inl ⟨by rfl, ?_⟩) ?_ ?_
                        rotate_left
                        · intro w'
                          go_simp
                          with_reducible rfl
                        rotate_left
                        · simp only [Act.put, List.setIfInBounds_toArray, List.set_cons_zero, List.set_cons_succ]
                          rfl
                        refine pure_ (i := 4) (N := some 141) (v := ?_) (a' := ?_) #[true, true, true, true, true, false, false, false, false, false, false, false, false, false, false] rfl rfl (any_of HT_.out (by kernel_rfl)) (fun _ _ _ h => h) (Or.inl ⟨by rfl, ?_⟩) ?_ ?_
                        rotate_left
                        · intro w'
                          go_simp
                          with_reducible rfl
                        rotate_left
                        · simp only [Act.put, List.setIfInBounds_toArray, List.set_cons_zero, List.set_cons_succ]
                          rfl
                        refine pure_ (i := 6) (N := some 143) (v := ?_) (a' := ?_) #[true, true, true, true, true, false, true, false, false, false, false, false, false, false, false] rfl rfl (any_of HT_.out (by kernel_rfl)) (fun _ _ _ h => h) (Or.inl ⟨by rfl, ?_⟩) ?_ ?_
                        rotate_left
                        · intro w'
                          go_simp
                          with_reducible rfl
                        rotate_left
                        · simp only [Act.put, List.setIfInBounds_toArray, List.set_cons_zero, List.set_cons_succ]
                          rfl
                        refine take_ (i := 5) (N := some 142) (v := ?_) (a' := ?_) #[true, true, true, true, true, true, true, false, false, false, false, false, false, false, false] rfl rfl (take_ofW HT_.out HW_.out (by kernel_rfl)) (fun _ _ _ h => h) (Or.inl ⟨by rfl, ?_⟩) hHeld ?_ ?_
                        rotate_left
                        · intro w' hkt
                          obtain ⟨s0, s1, s2, s3⟩ := RC.out w' hkt
                          go_simp
                          with_reducible rfl
                        rotate_left
                        · simp only [Act.put, List.setIfInBounds_toArray, List.set_cons_zero, List.set_cons_succ]
                          rfl
                        refine take_ (i := 7) (N := some 144) (v := ?_) (a' := ?_) #[true, true, true, true, true, true, true, true, false, false, false, false, false, false, false] rfl rfl (take_ofW HT_.out HW_.out (by kernel_rfl)) (fun _ _ _ h => h) (Or.inl ⟨by rfl, ?_⟩) hHeld ?_ ?_
                        rotate_left
                        · intro w' hkt
                          obtain ⟨s0, s1, s2, s3⟩ := RC.out w' hkt
                          go_simp
                          with_reducible rfl
                        rotate_left
                        · simp only [Act.put, List.setIfInBounds_toArray, List.set_cons_zero, List.set_cons_succ]
                          rfl
                        refine one_ (i := 8) (N := some 145) #[true, true, true, true, true, true, true, true, true, false, false, false, false, false, false] rfl rfl (one_of HT_.out (by kernel_rfl)) (by decide) (fun K hK => ?_)
                        refine goes_ Try.func46 (by kernel_rfl) rfl #[.agg #[.int .i64 aa, .int .i64 bb], .agg #[.int .i64 x.num, .int .i64 x.den]] (by rfl) rfl rfl (by (try simp only [List.map_toArray, List.map_cons, List.map_nil]); first | done | rfl) ?_
                        refine (ADD.out wd3).mono ?_
                        rintro e w8 ⟨xx, yy, er, hmade, rfl, hn8⟩
                        refine ⟨_, rfl, ?_⟩
                        refine hK.out _ _ (hHeld.trans hn8) (fun hHeld => ?_)
                        clear hK K
                        refine norm_ (a' := ?_) ?_ ?_
                        rotate_left
                        · show Act.put _ (some 145) _ = _
                          simp only [Act.put, List.setIfInBounds_toArray, List.set_cons_zero, List.set_cons_succ]
                          rfl
                        clear hn8
                        refine pure_ (i := 9) (N := some 136) (v := ?_) (a' := ?_) #[true, true, true, true, true, true, true, true, true, true, false, false, false, false, false] rfl rfl (any_of HT_.out (by kernel_rfl)) (fun _ _ _ h => h) (Or.inl ⟨by rfl, ?_⟩) ?_ ?_
                        rotate_left
                        · intro w'
                          go_simp
                          with_reducible rfl
                        rotate_left
                        · simp only [Act.put, List.setIfInBounds_toArray, List.set_cons_zero, List.set_cons_succ]
                          rfl
                        refine pure_ (i := 10) (N := some 146) (v := ?_) (a' := ?_) #[true, true, true, true, true, true, true, true, true, true, true, false, false, false, false] rfl rfl (any_of HT_.out (by kernel_rfl)) (fun _ _ _ h => h) (Or.inl ⟨by rfl, ?_⟩) ?_ ?_
                        rotate_left
                        · intro w'
                          go_simp
                          with_reducible rfl
                        rotate_left
                        · simp only [Act.put, List.setIfInBounds_toArray, List.set_cons_zero, List.set_cons_succ]
                          rfl
                        refine pure_ (i := 11) (N := some 147) (v := ?_) (a' := ?_) #[true, true, true, true, true, true, true, true, true, true, true, true, false, false, false] rfl rfl (any_of HT_.out (by kernel_rfl)) (fun _ _ _ h => h) (Or.inl ⟨by rfl, ?_⟩) ?_ ?_
                        rotate_left
                        · intro w'
                          go_simp
                          with_reducible rfl
                        rotate_left
                        · simp only [Act.put, List.setIfInBounds_toArray, List.set_cons_zero, List.set_cons_succ]
                          rfl
                        refine pure_ (i := 12) (N := some 148) (v := ?_) (a' := ?_) #[true, true, true, true, true, true, true, true, true, true, true, true, true, false, false] rfl rfl (any_of HT_.out (by kernel_rfl)) (fun _ _ _ h => h) (Or.inl ⟨by rfl, ?_⟩) ?_ ?_
                        rotate_left
                        · intro w'
                          go_simp
                          with_reducible rfl
                        rotate_left
                        · simp only [Act.put, List.setIfInBounds_toArray, List.set_cons_zero, List.set_cons_succ]
                          rfl
                        obtain ⟨y0, y1, y2, y3⟩ := RC.out w8 hHeld
                        have hrow8 := hHeld.row HK3.out.2.1
                        have z0 := hrow8.free (m * 2)
                        have z1 := hrow8.free (m * 2 + 1)
                        have hd8 := hHeld.row HK3.out.2.2.2.1
                        have hzn8 := HK3.out.1.new hHeld
                        have hb8 := HK3.out.2.2.2.2.trans (hHeld.below HK3.out.2.2.2.2.size)
                        have hne : gd ≠ gv := hd8.ne hrow8 (by decide)
                        have hne2 : b ≠ gv := hzn8.row.ne hrow8 (by decide)
                        have hr9 := (hrow8.set (m * 2) (.int .i64 xx)).set (m * 2 + 1) (.int .i64 yy)
                        rw [ratRow_set r3 m xx yy (by rw [HK3.out.2.2.1.1]; omega)] at hr9
                        have hd9 := (hd8.far (p := ⟨gv, m * 2, none⟩) hne (.int .i64 xx)).far (p := ⟨gv, m * 2 + 1, none⟩) hne (.int .i64 yy)
                        have hz9 : ZoneAt ((w8.setCell ⟨gv, m * 2, none⟩ (.int .i64 xx)).setCell ⟨gv, m * 2 + 1, none⟩ (.int .i64 yy)) b ⟨n, Z⟩ :=
                          ⟨(hzn8.row.far (p := ⟨gv, m * 2, none⟩) hne2 _).far (p := ⟨gv, m * 2 + 1, none⟩) hne2 _, hzn8.len, hzn8.dim⟩
                        have hb9 := (hb8.setCell (p := ⟨gv, m * 2, none⟩) HLW.out (.int .i64 xx)).setCell (p := ⟨gv, m * 2 + 1, none⟩) HLW.out (.int .i64 yy)
                        have HQ := Lib.hid (And.intro hz9 (And.intro hr9 (And.intro hd9 hb9)))
                        clear hrow8 hd8 hzn8 hb8 hne hne2 hr9 hd9 hz9 hb9
                        refine last_ (i := 13) (N := none) #[true, true, true, true, true, true, true, true, true, true, true, true, true, true, false] rfl rfl (one_of HT_.out (by kernel_rfl)) (by decide) (fun K hK => ?_)
                        refine skip_ (w1 := (w8.setCell ⟨gv, m * 2, none⟩ (.int .i64 xx)).setCell ⟨gv, m * 2 + 1, none⟩ (.int .i64 yy)) (by rfl) rfl (by go_simp) ?_
                        refine hK.out _ _ ?_
                        clear hK K
                        generalize (w8.setCell ⟨gv, m * 2, none⟩ (.int .i64 xx)).setCell ⟨gv, m * 2 + 1, none⟩ (.int .i64 yy) = w9 at *
                        clear y0 y1 y2 y3 z0 z1 hHeld
                        refine pure_ (i := 14) (N := some 7) (v := ?_) (a' := ?_) #[true, true, true, true, true, true, true, true, true, true, true, true, true, true, true] rfl rfl (any_of HT_.out (by kernel_rfl)) (fun _ _ _ h => h) (Or.inl ⟨by rfl, ?_⟩) ?_ ?_
                        rotate_left
                        · intro w'
                          go_simp
                          with_reducible rfl
                        rotate_left
                        · simp only [Act.put, List.setIfInBounds_toArray, List.set_cons_zero, List.set_cons_succ]
                          rfl
                        refine done_ (done_of HT_.out (by kernel_rfl)) ?_
                        have her : er = 0 ∨ er = 20 := by
                          rcases hmade with ⟨_, _, _, _, h⟩ | ⟨_, _, h⟩
                          · exact .inl h
                          · exact .inr h
                        have HMADE := Lib.hid hmade
                        have HM1 := Lib.hid (And.intro hm1 hlt)
                        clear hmade RC ADD hm1 hm2 hlt
                        rcases her with rfl | rfl
                        · have hab := add_ratIs HG.out HDR.out HMADE.out rfl
                          have hcc : Vc V d (m + 1) m = V m + d := by unfold Vc; rw [if_pos ⟨by have := HM1.out.1; omega, by omega⟩]
                          have hval := St.val_set (V' := Vc V d (m + 1)) HK3.out.2.2.1 hmn (a := xx) (b := yy) (by rw [hcc]; exact hab) (by rw [hcc]; have := HV2.out.1; have := HD01.out; omega) (by rw [hcc]; have := HV2.out.1; have := HD01.out; have := HK2.out; omega) (fun t _ ht => by
                            unfold Vc
                            by_cases h : t ≠ 0 ∧ t < m
                            · rw [if_pos h, if_pos ⟨h.1, by omega⟩]
                            · rw [if_neg h, if_neg (by omega)])
                          have HQ2 := Lib.hid (And.intro HQ.out.1 (And.intro HQ.out.2.1 (And.intro hval HQ.out.2.2)))
                          clear hab hcc hval HQ HK3 HMADE HG HV2
                          go_wp2_with fail
                          exact ⟨⟨m + 1, _, by omega, by have := HM1.out.2; omega, rfl, by go_num, HQ2⟩, by have := HM1.out.2; simp [intOf] <;> omega⟩
                        · clear HK3 HMADE HG HV2
                          go_wp2_with fail
                          go_ret
                          exact ⟨rfl, HQ.out.2.2.2⟩
                      · have hmz : ¬ (m : Int) ≤ n := by omega
                        have em : m = n + 1 := by omega
                        obtain ⟨Z', hz', htz⟩ := HTZ.out.up HK2.out HD01.out.1 HD01.out.2
                        have UPC : Hid (∀ W, ZoneAt W b ⟨n, Z⟩ → Calls Try.prog 51 #[.pointer (some ⟨b, 0, none⟩)] W fun e w' => (∃ g, e = .returned (.tuple #[.pointer (some ⟨g, 0, none⟩), .int .i64 0]) ∧ W.heap.size ≤ g ∧ Row w' g 177 (zoneRow n Z')) ∧ New W w') := Lib.hid fun W hW => by
                          have h1 := up_any b ⟨n, Z⟩ W hW HTZ.out.not_empty
                          have e1 : ofZ ((Zn.mk n Z).n : Int) (cellsOf ⟨(Zn.mk n Z).n, lp upC (Zn.mk n Z).n (openW ⟨n, Z⟩)⟩) = .ok Z' := hz'
                          rw [e1] at h1
                          exact h1
                        have hv2 : ValIs n r3 (fun p => if p = 0 then 0 else V p + d) := ⟨HK3.out.2.2.1.1, fun t ht => by
                          have h1 := HK3.out.2.2.1.2 t ht
                          have h2 : Vc V d m t = if t = 0 then 0 else V t + d := by
                            unfold Vc
                            by_cases h : t = 0
                            · subst h; rw [if_neg (by omega), if_pos rfl]; exact HTZ.out.v0
                            · rw [if_pos ⟨h, by omega⟩, if_neg h]
                          rw [h2] at h1
                          exact h1⟩
                        have HQ := Lib.hid (And.intro HK3.out.1 (And.intro HK3.out.2.1 (And.intro hv2 HK3.out.2.2.2.2)))
                        have HTZ2 := Lib.hid htz
                        clear hz' htz hv2 HK3 em hm1 hm2 hlt HTZ
                        go_wp2_with fail
                        refine (UPC.out _ HQ.out.1).mono ?_
                        rintro e w6 ⟨⟨b2, rfl, hb2, hr6⟩, hn6⟩
                        have HST2 : Hid (St w w6 gv b2 n (k + 1) Z' r3 (fun p => if p = 0 then 0 else V p + d)) :=
                          Lib.hid ⟨⟨hr6, HTZ2.out.cl.len, HTZ2.out.cl.dim⟩, hn6.row HQ.out.2.1, HQ.out.2.2.1, HTZ2.out, HLW.out, HQ.out.2.2.2.trans (hn6.below HQ.out.2.2.2.size)⟩
                        clear hr6 hb2 hn6 UPC HTZ2 HQ
                        have EM := Lib.hid HST2.out.empty
                        have HHO := Lib.hid (HST2.out.holds (n + 1))
                        go_wp2_with fail
                        refine EM.out.mono ?_
                        rintro e we ⟨rfl, rfl⟩
                        clear EM
                        go_wp2_with fail
                        refine HHO.out.mono ?_
                        rintro e we ⟨rfl, hne⟩
                        have HS9 := Lib.hid (HST2.out.new hne)
                        clear HST2 hne HHO
                        go_wp2_with fail
                        exact ⟨⟨k + 1, _, _, _, _, HK1.out, HK2.out, rfl, rfl, by go_num, HS9⟩, by have := HK1.out; simp [intOf] <;> omega⟩
          · by_cases hkind1 : x.kind = 1
            · as_aux_lemma =>
              rw [hkind1] at q0
              have q5 := HRD.out.cell 5
              simp only [ddC, List.getElem?_cons_zero, List.getElem?_cons_succ] at q5
              by_cases hi00 : i0 = 0
              · have hib : ((i0 : Int) == 0) = true := by simp; omega
                have HS9 := Lib.hid (HSD.out).skip
                clear HSD HRD
                go_wp2_with fail
                exact ⟨⟨k + 1, b, Z, r, V, HK1.out, HK2.out, rfl, rfl, by go_num, HS9⟩, by have := HK1.out; simp [intOf] <;> omega⟩
              · have hib : ((i0 : Int) == 0) = false := by simp; omega
                obtain ⟨m0, hm0⟩ : ∃ m : Int, x.n % 10 = m := ⟨_, rfl⟩
                have hm1 : 0 ≤ m0 := by have := Int.emod_nonneg x.n (show (10 : Int) ≠ 0 by decide); omega
                have hm9 : m0 ≤ 9 := by have := Int.emod_lt_of_pos x.n (show (0 : Int) < 10 by decide); omega
                have WN : Hid (∀ W, Calls Try.prog 40 #[.int .i64 x.n, .int .i64 10] W fun e w' => e = .returned (.int .i64 m0) ∧ W = w') := Lib.hid fun W => by rw [← hm0]; exact WI.out _ _ (by decide) (by decide) W
                have HI1 := Lib.hid hi00
                have hi4 : (i0 : Int) < (n : Int) + 1 := by have := HI0.out; omega
                clear hm0 hi00
                go_wp2_with fail
                refine (WN.out _).mono ?_
                rintro e w3 ⟨rfl, rfl⟩
                go_wp2_with fail
                refine (of_rat m0 _).mono ?_
                rintro e w4 ⟨rfl, hn4⟩
                have hs4 := HSD.out.new hn4
                have hd4 := hn4.row HRD.out
                obtain ⟨c1, c2⟩ := hs4.cells HI0.out
                have f1 := hs4.row.free (i0 * 2)
                have f2 := hs4.row.free (i0 * 2 + 1)
                have hne : gd ≠ gv := hd4.ne hs4.row (by decide)
                have hne2 : b ≠ gv := hs4.zone.row.ne hs4.row (by decide)
                have hr5 := (hs4.row.set (i0 * 2) (.int .i64 m0)).set (i0 * 2 + 1) (.int .i64 1)
                rw [ratRow_set r i0 m0 1 (by rw [hs4.val.1]; have := HI0.out; omega)] at hr5
                have hd5 := (hd4.far (p := ⟨gv, i0 * 2, none⟩) hne (.int .i64 m0)).far (p := ⟨gv, i0 * 2 + 1, none⟩) hne (.int .i64 1)
                have hz5 : ZoneAt ((w4.setCell ⟨gv, i0 * 2, none⟩ (.int .i64 m0)).setCell ⟨gv, i0 * 2 + 1, none⟩ (.int .i64 1)) b ⟨n, Z⟩ :=
                  ⟨(hs4.zone.row.far (p := ⟨gv, i0 * 2, none⟩) hne2 _).far (p := ⟨gv, i0 * 2 + 1, none⟩) hne2 _, hs4.zone.len, hs4.zone.dim⟩
                have hb5 := (hs4.below.setCell (p := ⟨gv, i0 * 2, none⟩) hs4.low (.int .i64 m0)).setCell (p := ⟨gv, i0 * 2 + 1, none⟩) hs4.low (.int .i64 1)
                have q55 := hd5.cell 5
                simp only [ddC, List.getElem?_cons_zero, List.getElem?_cons_succ] at q55
                obtain ⟨Z', hz', htz⟩ := hs4.tz.reset HK2.out HI1.out HI0.out hm1 hm9
                have RST : Hid (∀ W, ZoneAt W b ⟨n, Z⟩ → Calls Try.prog 52 #[.pointer (some ⟨b, 0, none⟩), .int .i64 i0, .int .i64 m0] W fun e w' => (∃ g, e = .returned (.tuple #[.pointer (some ⟨g, 0, none⟩), .int .i64 0]) ∧ W.heap.size ≤ g ∧ Row w' g 177 (zoneRow n Z')) ∧ New W w') := Lib.hid fun W hW => by
                  have h1 := reset_any b ⟨n, Z⟩ i0 m0 W hW hs4.tz.not_empty (Nat.pos_of_ne_zero HI1.out) HI0.out hm1 hm9
                  have e1 : ofZ ((Zn.mk n Z).n : Int) (cellsOf ⟨(Zn.mk n Z).n, resetW (Zn.mk n Z).n i0 m0 (openW ⟨n, Z⟩)⟩) = .ok Z' := hz'
                  rw [e1] at h1
                  exact h1
                have HV := Lib.hid (St.val_set (V' := fun p => if p = i0 then 12 * m0 else V p) hs4.val HI0.out (a := m0) (b := 1) (by simp only [if_true]; exact RatIs.whole m0) (by simp only [if_true]; omega) (by simp only [if_true]; omega) (fun t _ ht => if_neg ht))
                have HTZ := Lib.hid htz
                have H5 := Lib.hid (And.intro hr5 (And.intro hz5 (And.intro hb5 hs4.low)))
                clear hn4 hs4 hd4 hne hne2 hr5 hd5 hz5 hb5 hz' htz HSD HRD
                go_wp2_with fail
                refine (WN.out _).mono ?_
                rintro e w3 ⟨rfl, rfl⟩
                generalize (w4.setCell ⟨gv, i0 * 2, none⟩ (.int .i64 m0)).setCell ⟨gv, i0 * 2 + 1, none⟩ (.int .i64 1) = w5 at *
                clear c1 c2 f1 f2 q55 q5 q0
                go_wp2_with fail
                refine (RST.out _ H5.out.2.1).mono ?_
                rintro e w6 ⟨⟨b2, rfl, hb2, hr6⟩, hn6⟩
                have HST2 : Hid (St w w6 gv b2 n (k + 1) Z' (r.set i0 (m0, 1)) (fun p => if p = i0 then 12 * m0 else V p)) :=
                  Lib.hid ⟨⟨hr6, HTZ.out.cl.len, HTZ.out.cl.dim⟩, hn6.row H5.out.1, HV.out, HTZ.out, H5.out.2.2.2, H5.out.2.2.1.trans (hn6.below H5.out.2.2.1.size)⟩
                clear hr6 hb2 hn6 RST H5 HTZ HV
                have EM := Lib.hid HST2.out.empty
                have HHO := Lib.hid (HST2.out.holds (n + 1))
                go_wp2_with fail
                refine EM.out.mono ?_
                rintro e we ⟨rfl, rfl⟩
                clear EM
                go_wp2_with fail
                refine HHO.out.mono ?_
                rintro e we ⟨rfl, hne⟩
                have HS9 := Lib.hid (HST2.out.new hne)
                clear HST2 hne HHO
                go_wp2_with fail
                exact ⟨⟨k + 1, _, _, _, _, HK1.out, HK2.out, rfl, rfl, by go_num, HS9⟩, by have := HK1.out; simp [intOf] <;> omega⟩
            · as_aux_lemma =>
              have hkb0 : (x.kind == 0) = false := by simpa using hkind0
              have hkb1 : (x.kind == 1) = false := by simpa using hkind1
              obtain ⟨c1, c2⟩ := HSD.out.cells HI0.out
              obtain ⟨c3, c4⟩ := HSD.out.cells HJ0.out
              have SUB := Lib.hid (fun W => sub_val HSD.out.val HI0.out HJ0.out W)
              have RC : Hid (∀ W, New wd W → W.cell? ⟨gv, i0 * 2, none⟩ = some (.int .i64 (r.getD i0 (0, 0)).1) ∧ W.cell? ⟨gv, i0 * 2 + 1, none⟩ = some (.int .i64 (r.getD i0 (0, 0)).2) ∧ W.cell? ⟨gv, j0 * 2, none⟩ = some (.int .i64 (r.getD j0 (0, 0)).1) ∧ W.cell? ⟨gv, j0 * 2 + 1, none⟩ = some (.int .i64 (r.getD j0 (0, 0)).2)) := Lib.hid fun W hW => by
                obtain ⟨d1, d2⟩ := (HSD.out.new hW).cells HI0.out
                obtain ⟨d3, d4⟩ := (HSD.out.new hW).cells HJ0.out
                exact ⟨d1, d2, d3, d4⟩
              clear c1 c2 c3 c4
              generalize (r.getD i0 (0, 0)).1 = aa at *
              generalize (r.getD i0 (0, 0)).2 = bb at *
              generalize (r.getD j0 (0, 0)).1 = cc at *
              generalize (r.getD j0 (0, 0)).2 = dd at *
              have hi4 : (i0 : Int) < (n : Int) + 1 := by have := HI0.out; omega
              have hj4 : (j0 : Int) < (n : Int) + 1 := by have := HJ0.out; omega
              clear hkind0 hkind1
              go_wp2_with fail
              go_cut [15, 16] (fun c15 c16 wc => ∃ (g : Nat) (xx yy : Int), c15 = .pointer (some ⟨g, 0, none⟩) ∧ c16 = .int .i64 0 ∧ Hid ((RatIs xx yy (V i0 - V j0) ∧ In64 xx ∧ In64 yy) ∧ Row wc g 75 [.int .i64 xx, .int .i64 yy] ∧ New wd wc))
              case first =>
                refine start_ (n := 15) (S := fun W => New wd W) (ds := []) #[false, false, false, false, false, false, false, false, false, false, false, false, false, false, false] (by kernel_rfl) rfl rfl (New.refl wd).drew (fun hHeld => ?_); refine with_tabW r9bTab r9bBits (fun HT_ HW_ => ?_)
                have HWD : Hid (New wd wd.drew) := Lib.hid (New.refl wd).drew
                generalize wd.drew = wdd at hHeld HWD ⊢
                refine pure_ (i := 0) (N := some 66) (v := ?_) (a' := ?_) #[true, false, false, false, false, false, false, false, false, false, false, false, false, false, false] rfl rfl (any_of HT_.out (by kernel_rfl)) (fun _ _ _ h => h) (Or.inl ⟨by rfl, ?_⟩) ?_ ?_
                rotate_left
                · intro w'
                  go_simp
                  with_reducible rfl
                rotate_left
                · simp only [Act.put, List.setIfInBounds_toArray, List.set_cons_zero, List.set_cons_succ]
                  rfl
                refine pure_ (i := 1) (N := some 67) (v := ?_) (a' := ?_) #[true, true, false, false, false, false, false, false, false, false, false, false, false, false, false] rfl rfl (any_of HT_.out (by kernel_rfl)) (fun _ _ _ h => h) (Or.inl ⟨by rfl, ?_⟩) ?_ ?_
                rotate_left
                · intro w'
                  go_simp
                  with_reducible rfl
                rotate_left
                · simp only [Act.put, List.setIfInBounds_toArray, List.set_cons_zero, List.set_cons_succ]
                  rfl
                refine pure_ (i := 2) (N := some 68) (v := ?_) (a' := ?_) #[true, true, true, false, false, false, false, false, false, false, false, false, false, false, false] rfl rfl (any_of HT_.out (by kernel_rfl)) (fun _ _ _ h => h) (Or.inl ⟨by rfl, ?_⟩) ?_ ?_
                rotate_left
                · intro w'
                  go_simp
                  with_reducible rfl
                rotate_left
                · simp only [Act.put, List.setIfInBounds_toArray, List.set_cons_zero, List.set_cons_succ]
                  rfl
                refine pure_ (i := 4) (N := some 70) (v := ?_) (a' := ?_) #[true, true, true, false, true, false, false, false, false, false, false, false, false, false, false] rfl rfl (any_of HT_.out (by kernel_rfl)) (fun _ _ _ h => h) (Or.inl ⟨by rfl, ?_⟩) ?_ ?_
                rotate_left
                · intro w'
                  go_simp
                  with_reducible rfl
                rotate_left
                · simp only [Act.put, List.setIfInBounds_toArray, List.set_cons_zero, List.set_cons_succ]
                  rfl
                refine pure_ (i := 5) (N := some 71) (v := ?_) (a' := ?_) #[true, true, true, false, true, true, false, false, false, false, false, false, false, false, false] rfl rfl (any_of HT_.out (by kernel_rfl)) (fun _ _ _ h => h) (Or.inl ⟨by rfl, ?_⟩) ?_ ?_
                rotate_left
                · intro w'
                  go_simp
                  with_reducible rfl
                rotate_left
                · simp only [Act.put, List.setIfInBounds_toArray, List.set_cons_zero, List.set_cons_succ]
                  rfl
                refine pure_ (i := 6) (N := some 72) (v := ?_) (a' := ?_) #[true, true, true, false, true, true, true, false, false, false, false, false, false, false, false] rfl rfl (any_of HT_.out (by kernel_rfl)) (fun _ _ _ h => h) (Or.inl ⟨by rfl, ?_⟩) ?_ ?_
                rotate_left
                · intro w'
                  go_simp
                  with_reducible rfl
                rotate_left
                · simp only [Act.put, List.setIfInBounds_toArray, List.set_cons_zero, List.set_cons_succ]
                  rfl
                refine take_ (i := 3) (N := some 69) (v := ?_) (a' := ?_) #[true, true, true, true, true, true, true, false, false, false, false, false, false, false, false] rfl rfl (take_ofW HT_.out HW_.out (by kernel_rfl)) (fun _ _ _ h => h) (Or.inl ⟨by rfl, ?_⟩) hHeld ?_ ?_
                rotate_left
                · intro w' hkt
                  obtain ⟨s0, s1, s2, s3⟩ := RC.out w' hkt
                  go_simp
                  with_reducible rfl
                rotate_left
                · simp only [Act.put, List.setIfInBounds_toArray, List.set_cons_zero, List.set_cons_succ]
                  rfl
                refine take_ (i := 7) (N := some 73) (v := ?_) (a' := ?_) #[true, true, true, true, true, true, true, true, false, false, false, false, false, false, false] rfl rfl (take_ofW HT_.out HW_.out (by kernel_rfl)) (fun _ _ _ h => h) (Or.inl ⟨by rfl, ?_⟩) hHeld ?_ ?_
                rotate_left
                · intro w' hkt
                  obtain ⟨s0, s1, s2, s3⟩ := RC.out w' hkt
                  go_simp
                  with_reducible rfl
                rotate_left
                · simp only [Act.put, List.setIfInBounds_toArray, List.set_cons_zero, List.set_cons_succ]
                  rfl
                refine two_ (i := 8) (j := 12) (Ni := some 74) (Nj := some 15) #[true, true, true, true, true, true, true, true, true, false, false, false, false, false, false] #[true, true, true, true, true, true, true, true, false, false, false, false, true, false, false] rfl rfl rfl rfl (two_of HT_.out (by kernel_rfl)) (by decide) (by decide) (fun K hK => ?_) (fun K hK => ?_)
                · refine goes_ Try.func53 (by kernel_rfl) rfl #[.agg #[.int .i64 aa, .int .i64 bb], .agg #[.int .i64 cc, .int .i64 dd]] (by rfl) rfl rfl (by (try simp only [List.map_toArray, List.map_cons, List.map_nil]); first | done | rfl) ?_
                  refine (SUB.out wdd).mono ?_
                  rintro e w8 ⟨xx, yy, hxy, rfl, hn8⟩
                  refine ⟨_, rfl, ?_⟩
                  refine hK.out _ _ (hHeld.trans hn8) (fun hHeld => ?_)
                  clear hK K
                  refine norm_ (a' := ?_) ?_ ?_
                  rotate_left
                  · show Act.put _ (some 74) _ = _
                    simp only [Act.put, List.setIfInBounds_toArray, List.set_cons_zero, List.set_cons_succ]
                    rfl
                  have HXY := Lib.hid hxy
                  clear hxy hn8
                  refine pure_ (i := 9) (N := some 65) (v := ?_) (a' := ?_) #[true, true, true, true, true, true, true, true, true, true, false, false, false, false, false] rfl rfl (any_of HT_.out (by kernel_rfl)) (fun _ _ _ h => h) (Or.inl ⟨by rfl, ?_⟩) ?_ ?_
                  rotate_left
                  · intro w'
                    go_simp
                    with_reducible rfl
                  rotate_left
                  · simp only [Act.put, List.setIfInBounds_toArray, List.set_cons_zero, List.set_cons_succ]
                    rfl
                  refine pure_ (i := 10) (N := some 75) (v := ?_) (a' := ?_) #[true, true, true, true, true, true, true, true, true, true, true, false, false, false, false] rfl rfl (any_of HT_.out (by kernel_rfl)) (fun _ _ _ h => h) (Or.inl ⟨by rfl, ?_⟩) ?_ ?_
                  rotate_left
                  · intro w'
                    go_simp
                    with_reducible rfl
                  rotate_left
                  · simp only [Act.put, List.setIfInBounds_toArray, List.set_cons_zero, List.set_cons_succ]
                    rfl
                  refine pure_ (i := 11) (N := some 76) (v := ?_) (a' := ?_) #[true, true, true, true, true, true, true, true, true, true, true, true, false, false, false] rfl rfl (any_of HT_.out (by kernel_rfl)) (fun _ _ _ h => h) (Or.inl ⟨by rfl, ?_⟩) ?_ ?_
                  rotate_left
                  · intro w'
                    go_simp
                    with_reducible rfl
                  rotate_left
                  · simp only [Act.put, List.setIfInBounds_toArray, List.set_cons_zero, List.set_cons_succ]
                    rfl
                  refine one_ (i := 12) (N := some 15) #[true, true, true, true, true, true, true, true, true, true, true, true, true, false, false] rfl rfl (one_of HT_.out (by kernel_rfl)) (by decide) (fun K hK => ?_)
                  refine gives_ (v := .pointer (some ⟨w8.heap.size, 0, none⟩)) (w1 := w8.alloc (.cells #[.int .i64 0, .int .i64 0] 75)) (by rfl) rfl (by go_simp) ?_
                  have HRB : Hid (Row (w8.alloc (.cells #[.int .i64 0, .int .i64 0] 75)) w8.heap.size 75 [.int .i64 0, .int .i64 0]) := Lib.hid (Row.new w8 75 _)
                  have HGB : Hid (wd.heap.size ≤ w8.heap.size) := Lib.hid hHeld.size
                  refine hK.out _ _ (hHeld.alloc _) (fun hHeld => ?_)
                  clear hK K
                  refine norm_ (a' := ?_) ?_ ?_
                  rotate_left
                  · show Act.put _ (some 15) _ = _
                    simp only [Act.put, List.setIfInBounds_toArray, List.set_cons_zero, List.set_cons_succ]
                    rfl
                  generalize w8.alloc (.cells #[.int .i64 0, .int .i64 0] 75) = wB at *
                  generalize w8.heap.size = gB at *
                  refine one_ (i := 13) (N := none) #[true, true, true, true, true, true, true, true, true, true, true, true, true, true, false] rfl rfl (one_of HT_.out (by kernel_rfl)) (by decide) (fun K hK => ?_)
                  have y0 : wB.cell? ⟨gB, 0, none⟩ = some (.int .i64 0) := HRB.out.cell 0
                  have y1 : wB.cell? ⟨gB, 1, none⟩ = some (.int .i64 0) := HRB.out.cell 1
                  have z0 := HRB.out.free 0
                  have z1 := HRB.out.free 1
                  refine skip_ (w1 := (wB.setCell ⟨gB, 0, none⟩ (.int .i64 xx)).setCell ⟨gB, 1, none⟩ (.int .i64 yy)) (by rfl) rfl (by go_simp) ?_
                  have HRC := Lib.hid ((HRB.out.set 0 (.int .i64 xx)).set 1 (.int .i64 yy))
                  have hnC : New wd ((wB.setCell ⟨gB, 0, none⟩ (.int .i64 xx)).setCell ⟨gB, 1, none⟩ (.int .i64 yy)) := ((Fr.set hHeld (p := ⟨gB, 0, none⟩) (.inr HGB.out) _).set (p := ⟨gB, 1, none⟩) (.inr HGB.out) _)
                  clear y0 y1 z0 z1 HRB
                  generalize (wB.setCell ⟨gB, 0, none⟩ (.int .i64 xx)).setCell ⟨gB, 1, none⟩ (.int .i64 yy) = wC at *
                  refine hK.out _ _ hnC (fun hHeld => ?_)
                  clear hK K
                  refine pure_ (i := 14) (N := some 16) (v := ?_) (a' := ?_) #[true, true, true, true, true, true, true, true, true, true, true, true, true, true, true] rfl rfl (any_of HT_.out (by kernel_rfl)) (fun _ _ _ h => h) (Or.inl ⟨by rfl, ?_⟩) ?_ ?_
                  rotate_left
                  · intro w'
                    go_simp
                    with_reducible rfl
                  rotate_left
                  · simp only [Act.put, List.setIfInBounds_toArray, List.set_cons_zero, List.set_cons_succ]
                    rfl
                  refine done_ (done_of HT_.out (by kernel_rfl)) ?_
                  have HNC := Lib.hid hnC
                  clear hnC hHeld HWD
                  go_wp2_with fail
                  go_meet
                  case rel => exact ⟨gB, xx, yy, rfl, rfl, Lib.hid ⟨HXY.out, HRC.out, HNC.out⟩⟩
                · refine gives_ (v := .pointer (some ⟨wdd.heap.size, 0, none⟩)) (w1 := wdd.alloc (.cells #[.int .i64 0, .int .i64 0] 75)) (by rfl) rfl (by go_simp) ?_
                  have HRB0 : Hid (Row (wdd.alloc (.cells #[.int .i64 0, .int .i64 0] 75)) wdd.heap.size 75 [.int .i64 0, .int .i64 0]) := Lib.hid (Row.new wdd 75 _)
                  have HGB : Hid (wd.heap.size ≤ wdd.heap.size) := Lib.hid hHeld.size
                  refine hK.out _ _ (hHeld.alloc _) (fun hHeld => ?_)
                  clear hK K
                  refine norm_ (a' := ?_) ?_ ?_
                  rotate_left
                  · show Act.put _ (some 15) _ = _
                    simp only [Act.put, List.setIfInBounds_toArray, List.set_cons_zero, List.set_cons_succ]
                    rfl
                  generalize wdd.alloc (.cells #[.int .i64 0, .int .i64 0] 75) = wA at *
                  generalize wdd.heap.size = gB at *
                  refine one_ (i := 8) (N := some 74) #[true, true, true, true, true, true, true, true, true, false, false, false, true, false, false] rfl rfl (one_of HT_.out (by kernel_rfl)) (by decide) (fun K hK => ?_)
                  refine goes_ Try.func53 (by kernel_rfl) rfl #[.agg #[.int .i64 aa, .int .i64 bb], .agg #[.int .i64 cc, .int .i64 dd]] (by rfl) rfl rfl (by (try simp only [List.map_toArray, List.map_cons, List.map_nil]); first | done | rfl) ?_
                  refine (SUB.out wA).mono ?_
                  rintro e wB ⟨xx, yy, hxy, rfl, hn8⟩
                  refine ⟨_, rfl, ?_⟩
                  refine hK.out _ _ (hHeld.trans hn8) (fun hHeld => ?_)
                  clear hK K
                  refine norm_ (a' := ?_) ?_ ?_
                  rotate_left
                  · show Act.put _ (some 74) _ = _
                    simp only [Act.put, List.setIfInBounds_toArray, List.set_cons_zero, List.set_cons_succ]
                    rfl
                  have HXY := Lib.hid hxy
                  have HRB := Lib.hid (hn8.row HRB0.out)
                  clear hxy hn8 HRB0
                  refine pure_ (i := 9) (N := some 65) (v := ?_) (a' := ?_) #[true, true, true, true, true, true, true, true, true, true, false, false, true, false, false] rfl rfl (any_of HT_.out (by kernel_rfl)) (fun _ _ _ h => h) (Or.inl ⟨by rfl, ?_⟩) ?_ ?_
                  rotate_left
                  · intro w'
                    go_simp
                    with_reducible rfl
                  rotate_left
                  · simp only [Act.put, List.setIfInBounds_toArray, List.set_cons_zero, List.set_cons_succ]
                    rfl
                  refine pure_ (i := 10) (N := some 75) (v := ?_) (a' := ?_) #[true, true, true, true, true, true, true, true, true, true, true, false, true, false, false] rfl rfl (any_of HT_.out (by kernel_rfl)) (fun _ _ _ h => h) (Or.inl ⟨by rfl, ?_⟩) ?_ ?_
                  rotate_left
                  · intro w'
                    go_simp
                    with_reducible rfl
                  rotate_left
                  · simp only [Act.put, List.setIfInBounds_toArray, List.set_cons_zero, List.set_cons_succ]
                    rfl
                  refine pure_ (i := 11) (N := some 76) (v := ?_) (a' := ?_) #[true, true, true, true, true, true, true, true, true, true, true, true, true, false, false] rfl rfl (any_of HT_.out (by kernel_rfl)) (fun _ _ _ h => h) (Or.inl ⟨by rfl, ?_⟩) ?_ ?_
                  rotate_left
                  · intro w'
                    go_simp
                    with_reducible rfl
                  rotate_left
                  · simp only [Act.put, List.setIfInBounds_toArray, List.set_cons_zero, List.set_cons_succ]
                    rfl
                  refine one_ (i := 13) (N := none) #[true, true, true, true, true, true, true, true, true, true, true, true, true, true, false] rfl rfl (one_of HT_.out (by kernel_rfl)) (by decide) (fun K hK => ?_)
                  have y0 : wB.cell? ⟨gB, 0, none⟩ = some (.int .i64 0) := HRB.out.cell 0
                  have y1 : wB.cell? ⟨gB, 1, none⟩ = some (.int .i64 0) := HRB.out.cell 1
                  have z0 := HRB.out.free 0
                  have z1 := HRB.out.free 1
                  refine skip_ (w1 := (wB.setCell ⟨gB, 0, none⟩ (.int .i64 xx)).setCell ⟨gB, 1, none⟩ (.int .i64 yy)) (by rfl) rfl (by go_simp) ?_
                  have HRC := Lib.hid ((HRB.out.set 0 (.int .i64 xx)).set 1 (.int .i64 yy))
                  have hnC : New wd ((wB.setCell ⟨gB, 0, none⟩ (.int .i64 xx)).setCell ⟨gB, 1, none⟩ (.int .i64 yy)) := ((Fr.set hHeld (p := ⟨gB, 0, none⟩) (.inr HGB.out) _).set (p := ⟨gB, 1, none⟩) (.inr HGB.out) _)
                  clear y0 y1 z0 z1 HRB
                  generalize (wB.setCell ⟨gB, 0, none⟩ (.int .i64 xx)).setCell ⟨gB, 1, none⟩ (.int .i64 yy) = wC at *
                  refine hK.out _ _ hnC (fun hHeld => ?_)
                  clear hK K
                  refine pure_ (i := 14) (N := some 16) (v := ?_) (a' := ?_) #[true, true, true, true, true, true, true, true, true, true, true, true, true, true, true] rfl rfl (any_of HT_.out (by kernel_rfl)) (fun _ _ _ h => h) (Or.inl ⟨by rfl, ?_⟩) ?_ ?_
                  rotate_left
                  · intro w'
                    go_simp
                    with_reducible rfl
                  rotate_left
                  · simp only [Act.put, List.setIfInBounds_toArray, List.set_cons_zero, List.set_cons_succ]
                    rfl
                  refine done_ (done_of HT_.out (by kernel_rfl)) ?_
                  have HNC := Lib.hid hnC
                  clear hnC hHeld HWD
                  go_wp2_with fail
                  go_meet
                  case rel => exact ⟨gB, xx, yy, rfl, rfl, Lib.hid ⟨HXY.out, HRC.out, HNC.out⟩⟩
              case rest =>
                obtain ⟨g, xx, yy, rfl, rfl, HXX⟩ := hcut
                have HSC := Lib.hid (HSD.out.new HXX.out.2.2)
                have HRC := Lib.hid (HXX.out.2.2.row HRD.out)
                have q6 := HRC.out.cell 6
                simp only [ddC, List.getElem?_cons_zero, List.getElem?_cons_succ] at q6
                clear q0 HSD HRD RC SUB
                by_cases b1 : x.b < -100
                · have HSD := HSC
                  have HRD := HRC
                  clear HXX HSC HRC
                  have HS9 := Lib.hid (HSD.out).skip
                  clear HSD HRD
                  go_wp2_with fail
                  exact ⟨⟨k + 1, b, Z, r, V, HK1.out, HK2.out, rfl, rfl, by go_num, HS9⟩, by have := HK1.out; simp [intOf] <;> omega⟩
                · by_cases b2 : 100 < x.b
                  · have HSD := HSC
                    have HRD := HRC
                    clear HXX HSC HRC
                    have HS9 := Lib.hid (HSD.out).skip
                    clear HSD HRD
                    go_wp2_with fail
                    exact ⟨⟨k + 1, b, Z, r, V, HK1.out, HK2.out, rfl, rfl, by go_num, HS9⟩, by have := HK1.out; simp [intOf] <;> omega⟩
                  · have x0 := HXX.out.2.1.cell 0
                    have x1 := HXX.out.2.1.cell 1
                    simp only [List.getElem?_cons_zero, List.getElem?_cons_succ] at x0 x1
                    have KE := Lib.hid (fun W => keeps_any x.b xx yy (by omega) (by omega) HXX.out.1.2.1 HXX.out.1.2.2 W)
                    have HIFF := Lib.hid (keepsB_iff (b := x.b) HXX.out.1.1)
                    have HB12 := Lib.hid (And.intro b1 b2)
                    have b1' : ¬ x.b < -100 := b1
                    clear HXX
                    go_wp2_with fail
                    refine (KE.out _).mono ?_
                    rintro e w7 ⟨rfl, hn7⟩
                    have HSD := Lib.hid (HSC.out.new hn7)
                    have HRD := Lib.hid (hn7.row HRC.out)
                    clear hn7 HSC HRC KE x0 x1 q6
                    cases hkp : keepsB x.b xx yy with
                    | false =>
                      clear hkp
                      have HS9 := Lib.hid (HSD.out).skip
                      clear HSD HRD
                      go_wp2_with fail
                      exact ⟨⟨k + 1, b, Z, r, V, HK1.out, HK2.out, rfl, rfl, by go_num, HS9⟩, by have := HK1.out; simp [intOf] <;> omega⟩
                    | true =>
                      have hkf : Kf x.b (V i0 - V j0) := (HIFF.out.1 hkp).resolve_left (by have := HB12.out; omega)
                      obtain ⟨Z', hz', htz⟩ := HSD.out.tz.cut HK2.out n3 HI0.out HJ0.out (b := x.b) (by have := HB12.out; omega) (by have := HB12.out; omega) hkf
                      have hrb : rightB x.b = true := decide_eq_true (.inr ⟨by have := HB12.out; omega, by have := HB12.out; omega⟩)
                      have CON : Hid (∀ W gl, ZoneAt W b ⟨n, Z⟩ → Elems W W.heap.size (some ⟨gl, 0, none⟩) (limRow [⟨i0, j0, x.b⟩]) → Calls Try.prog 55 #[.pointer (some ⟨b, 0, none⟩), .slice (some ⟨gl, 0, none⟩) 1 1] W fun e w' => (∃ g, e = .returned (.tuple #[.pointer (some ⟨g, 0, none⟩), .int .i64 0]) ∧ W.heap.size ≤ g ∧ Row w' g 177 (zoneRow n Z')) ∧ New W w') := Lib.hid fun W gl hW hE => by
                        have h1 := constrain_one b ⟨n, Z⟩ i0 j0 x.b (some ⟨gl, 0, none⟩) 1 W hW hE HI0.out HJ0.out hrb
                        have e1 : ofZ ((Zn.mk n Z).n : Int) (cellsOf ⟨(Zn.mk n Z).n, cutC i0 j0 x.b (openW ⟨n, Z⟩)⟩) = .ok Z' := hz'
                        rw [e1] at h1
                        exact h1
                      have HTZ := Lib.hid htz
                      have q6 := HRD.out.cell 6
                      simp only [ddC, List.getElem?_cons_zero, List.getElem?_cons_succ] at q6
                      clear hkp hkf hz' htz hrb b1 b2 b1'
                      go_wp2_with fail
                      have hel : Elems (w7.alloc (.cells #[.int .i64 (i0 : Int), .int .i64 (j0 : Int), .int .i32 x.b] 100)) (w7.alloc (.cells #[.int .i64 (i0 : Int), .int .i64 (j0 : Int), .int .i32 x.b] 100)).heap.size (some ⟨w7.heap.size, 0, none⟩) (limRow [⟨i0, j0, x.b⟩]) := by
                        rw [World.size_alloc]
                        exact elems_news w7 100 [.int .i64 (i0 : Int), .int .i64 (j0 : Int), .int .i32 x.b]
                      have hs8 := HSD.out.new ((New.refl w7).alloc (.cells #[.int .i64 (i0 : Int), .int .i64 (j0 : Int), .int .i32 x.b] 100))
                      refine (CON.out _ w7.heap.size hs8.zone hel).mono ?_
                      rintro e w9 ⟨⟨b2, rfl, hb2, hr9⟩, hn9⟩
                      have HST2 : Hid (St w w9 gv b2 n (k + 1) Z' r V) :=
                        Lib.hid ⟨⟨hr9, HTZ.out.cl.len, HTZ.out.cl.dim⟩, hn9.row hs8.row, hs8.val, HTZ.out, hs8.low, hs8.below.trans (hn9.below hs8.below.size)⟩
                      clear hel hs8 hr9 hb2 hn9 CON HTZ HSD HRD q6
                      have EM := Lib.hid HST2.out.empty
                      have HHO := Lib.hid (HST2.out.holds (n + 1))
                      go_wp2_with fail
                      refine EM.out.mono ?_
                      rintro e we ⟨rfl, rfl⟩
                      clear EM
                      go_wp2_with fail
                      refine HHO.out.mono ?_
                      rintro e we ⟨rfl, hne⟩
                      have HS9 := Lib.hid (HST2.out.new hne)
                      clear HST2 hne HHO
                      go_wp2_with fail
                      exact ⟨⟨k + 1, _, _, _, _, HK1.out, HK2.out, rfl, rfl, by go_num, HS9⟩, by have := HK1.out; simp [intOf] <;> omega⟩
        · as_aux_lemma =>
          have HDM := Lib.hid (dim_any b ⟨n, Z⟩ wr HST.out.zone)
          have HHO := Lib.hid (HST.out.holds (n + 1))
          have HB := Lib.hid HST.out.below
          clear HST
          by_cases hk1 : k < l.length
          · have hkz : (k : Int) < l.length := by omega
            have hk2z : ¬ (k : Int) < 200 := by omega
            clear hkl hk1
            go_wp2_with fail
            refine HDM.out.mono ?_
            rintro e we ⟨rfl, rfl⟩
            go_wp2_with fail
            refine HHO.out.mono ?_
            rintro e we ⟨rfl, hne⟩
            have HB2 := Lib.hid (HB.out.trans (hne.below HB.out.size))
            clear hne HHO HDM
            go_wp2_with fail
            go_ret
            exact ⟨rfl, HB2.out⟩
          · have hkz : ¬ (k : Int) < l.length := by omega
            clear hkl hk1
            go_wp2_with fail
            refine HDM.out.mono ?_
            rintro e we ⟨rfl, rfl⟩
            go_wp2_with fail
            refine HHO.out.mono ?_
            rintro e we ⟨rfl, hne⟩
            have HB2 := Lib.hid (HB.out.trans (hne.below HB.out.size))
            clear hne HHO HDM
            go_wp2_with fail
            go_ret
            exact ⟨rfl, HB2.out⟩
end Go.Proofs.Ytapfihlgemejiaa
