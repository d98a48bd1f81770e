/- reduce.Pack. | slices.Equal of bytes. -/
import Derived.Test.YtapfihlgemejiaaR16
import Derived.Test.YtapfihlgemejiaaB0
-- reduce.Pack.
namespace Go.Proofs.Ytapfihlgemejiaa
open Go.RowKit
theorem infoOf5 : (Try.prog.info? 5).map (fun i => (i.zero, i.size, i.bytes)) = some (some (.int .u8 0), 1, 1) := by kernel_rfl
def ints8 (l : List Int) : List Value := l.map (Value.int .u8)
theorem ints8_length (l : List Int) : (ints8 l).length = l.length := by simp [ints8]
theorem ints8_append (a b : List Int) : ints8 (a ++ b) = ints8 a ++ ints8 b := by simp [ints8]
/-- A bound as five bytes. -/
def limBytes (x : Lim) : List Int := [16 * x.i + x.j, (x.b + 2147483648) / 16777216, (x.b + 2147483648) / 65536 % 256, (x.b + 2147483648) / 256 % 256, (x.b + 2147483648) % 256]
def packTo (z : Zn) (t : Nat) : List Int := [(z.n : Int), ((fewN z).length : Int)] ++ ((fewN z).take t).flatMap limBytes
def packB (z : Zn) : List Int := packTo z (fewN z).length
theorem packTo_succ (z : Zn) {t : Nat} (h : t < (fewN z).length) : packTo z (t + 1) = packTo z t ++ limBytes ((fewN z).getD t ⟨0, 0, 0⟩) := by
  unfold packTo
  rw [List.take_succ_eq_append_getElem h, List.flatMap_append, List.getD_eq_getElem?_getD, List.getElem?_eq_getElem h]
  simp
theorem packTo_length (z : Zn) : ∀ t, t ≤ (fewN z).length → (packTo z t).length = 2 + 5 * t
  | 0, _ => by simp [packTo]
  | t + 1, h => by rw [packTo_succ z (by omega), List.length_append, packTo_length z t (by omega)]; simp [limBytes]; omega
/-- A bound of the few is small. -/
theorem fewN_small {z : Zn} (hg : ZGood z) : (fewN z).length ≤ 162 ∧ ∀ x, x ∈ fewN z → (0 ≤ x.i ∧ x.i ≤ z.n) ∧ (0 ≤ x.j ∧ x.j ≤ z.n) ∧ -536870912 ≤ x.b ∧ x.b ≤ 536870913 := by
  obtain ⟨n, Z⟩ := z
  obtain ⟨_, h | h⟩ := hg
  · have h : Z = zeros := h
    subst h
    unfold fewN
    rw [if_pos zeros_empty]
    refine ⟨by simp, fun x hx => ?_⟩
    have : x = ⟨0, 0, 0⟩ := by simpa using hx
    subst this
    exact ⟨⟨by simp, by simp⟩, ⟨by simp, by simp⟩, by simp, by simp⟩
  · have h : ZCl n Z := h
    unfold fewN
    rw [if_neg (by rw [h.not_empty]; decide), List.length_map]
    refine ⟨h.few_le, fun x hx => ?_⟩
    rw [List.mem_map] at hx
    obtain ⟨e, he, rfl⟩ := hx
    rcases mem_fewL.1 he with ⟨c, hc, he⟩ | ⟨c, d, hc, hd1, hne, hnd, rfl⟩
    · obtain ⟨a, b, h3⟩ := h.few_key ⟨c, hc, he⟩
      have := (h.rng _ _ a b).resolve_left ((h.head_iff a b).1 h3).1
      exact ⟨⟨by simp [limOf], by simp [limOf]; omega⟩, ⟨by simp [limOf], by simp [limOf]; omega⟩, this.1, this.2⟩
    · have a := (h.class_of hc).1.1
      have b := (h.class_of hd1).1.1
      have hfin : cellN Z (hd c) (hd d) ≠ INF := by
        unfold neededB at hnd
        simp only [Bool.and_eq_true, decide_eq_true_eq] at hnd
        exact hnd.1.1
      have := (h.rng _ _ a b).resolve_left hfin
      exact ⟨⟨by simp [limOf], by simp [limOf]; omega⟩, ⟨by simp [limOf], by simp [limOf]; omega⟩, this.1, this.2⟩
def PackPost (z : Zn) (w : World) (e : Ending) (w' : World) : Prop := ∃ v, e = .returned (.tuple #[v, .int .i64 0]) ∧ w'.ownsRow w.heap.size 5 1 v (packB z).length (ints8 (packB z)) ∧ New w w'
set_option maxRecDepth 100000 in
set_option maxHeartbeats 4000000 in
theorem pack_any (b : Nat) (z : Zn) (w : World) (h : ZoneAt w b z) (hg : ZGood z) : Calls Try.prog 72 #[.pointer (some ⟨b, 0, none⟩)] w (PackPost z w) := by
  obtain ⟨i0, hi0, hz0, hz1, hz2⟩ := info_parts infoOf5
  have F := Lib.hid (few_all b z w h hg)
  have DM := Lib.hid (fun W (hn : New w W) => dim_any b z W (h.new hn))
  obtain ⟨hlen, hsm⟩ := fewN_small hg
  have hn8 := hg.1
  have HSM := Lib.hid hsm
  clear h hg hsm
  obtain ⟨m, hm⟩ : ∃ m, (fewN z).length = m := ⟨_, rfl⟩
  rw [hm] at hlen
  have HM := Lib.hid hm
  go_enter Try.func72, Try.ntmps72
  go_wp2_with fail
  refine F.out.mono ?_
  rintro e w1 ⟨v, rfl, ho, hn1⟩
  obtain ⟨A, c, hv⟩ := own_form ho
  rw [hm] at hv ho
  subst hv
  have HO := Lib.hid ho
  have N1 := Lib.hid hn1
  have HDM := Lib.hid (DM.out w1 hn1)
  clear ho hn1 F hm DM
  go_wp2_with fail
  refine HDM.out.mono ?_
  rintro e w' ⟨rfl, rfl⟩
  have e1 : (z.n : Int) % 256 = (z.n : Int) := by omega
  have e2 : (m : Int) % 256 = (m : Int) := by omega
  go_wp2_with fail
  go_loopw [6, 27] (fun vb ci wr => ∃ t : Nat, t ≤ m ∧ ci = .int .i64 t ∧ Hid (wr.ownsRow w1.heap.size 5 1 vb (2 + 5 * t) (ints8 (packTo z t))) ∧ Hid (New w1 wr))
    (fun _ ci _ => m - (intOf ci).toNat)
  case atStart =>
    refine ⟨0, Nat.zero_le _, by go_num, ?_, (New.refl w1).alloc _⟩
    have e : ints8 (packTo z 0) = [.int .u8 (z.n : Int), .int .u8 (m : Int)] := by
      have h1 := HM.out
      simp [packTo, ints8, h1]
    show World.ownsRow _ _ _ _ _ _ _
    rw [e]
    exact World.ownsRow_lit w1 #[.int .u8 (z.n : Int), .int .u8 (m : Int)] 2 (Nat.le_refl _) (by decide) (by simp)
  case round =>
    obtain ⟨t, ht, rfl, HB, HN⟩ := hrel
    by_cases htl : t < m
    · have htz : (t : Int) < m := by omega
      have hown := own_new HO.out HN.out
      have hxm : (fewN z).getD t ⟨0, 0, 0⟩ ∈ fewN z := by rw [List.getD_eq_getElem?_getD, List.getElem?_eq_getElem (by rw [HM.out]; exact htl)]; exact List.getElem_mem _
      obtain ⟨x1, x2, x3⟩ := HSM.out _ hxm
      have hsucc := packTo_succ z (t := t) (by rw [HM.out]; exact htl)
      obtain ⟨bA, offA, hA, hbA, c0, c1, c2⟩ := (elems_of_own hown).lims t (by rw [HM.out]; exact htl)
      subst hA
      generalize (fewN z).getD t ⟨0, 0, 0⟩ = x at *
      obtain ⟨xi, xj, xb⟩ := x
      simp only at x1 x2 x3 c0 c1 c2
      have hl5 : (limBytes ⟨xi, xj, xb⟩) = [16 * xi + xj, (xb + 2147483648) / 16777216, (xb + 2147483648) / 65536 % 256, (xb + 2147483648) / 256 % 256, (xb + 2147483648) % 256] := rfl
      rw [hl5] at hsucc
      have HSU := Lib.hid hsucc
      have hbl := HB.out
      obtain ⟨q, hq⟩ : ∃ q, IntKind.u32.wrap xb = q := ⟨_, rfl⟩
      have hqx := xor_top q
      have hq2 : (q + 2147483648) % 4294967296 = xb + 2147483648 := by rw [← hq, IntKind.wrap_u32]; omega
      rw [hq2] at hqx
      obtain ⟨u, hu⟩ : ∃ u, xb + 2147483648 = u := ⟨_, rfl⟩
      rw [hu] at hqx
      have HU := Lib.hid hu
      have u0 : 0 ≤ u := by omega
      have u1 : u ≤ 4294967295 := by omega
      obtain ⟨i0', i1'⟩ := x1
      obtain ⟨j0', j1'⟩ := x2
      have hij : (16 * xi + xj) % 256 = 16 * xi + xj := by omega
      have hN2 := ((New.refl wr).alloc (.cells #[.int .i64 xi, .int .i64 xj, .int .i32 xb] 100)).alloc (.cells #[.int .u8 (16 * xi + xj), .int .u8 (u / 16777216), .int .u8 (u / 65536 % 256), .int .u8 (u / 256 % 256), .int .u8 (u % 256)] 5)
      have HOWN := Lib.hid (own_new hbl hN2)
      have HEL : Hid (Elems ((wr.alloc (.cells #[.int .i64 xi, .int .i64 xj, .int .i32 xb] 100)).alloc (.cells #[.int .u8 (16 * xi + xj), .int .u8 (u / 16777216), .int .u8 (u / 65536 % 256), .int .u8 (u / 256 % 256), .int .u8 (u % 256)] 5)) (wr.heap.size + 1 + 1) (some ⟨wr.heap.size + 1, 0, none⟩)
          [.int .u8 (16 * xi + xj), .int .u8 (u / 16777216), .int .u8 (u / 65536 % 256), .int .u8 (u / 256 % 256), .int .u8 (u % 256)]) := by
        have h := elems_news (wr.alloc (.cells #[.int .i64 xi, .int .i64 xj, .int .i32 xb] 100)) 5 [.int .u8 (16 * xi + xj), .int .u8 (u / 16777216), .int .u8 (u / 65536 % 256), .int .u8 (u / 256 % 256), .int .u8 (u % 256)]
        rw [show (wr.alloc (.cells #[.int .i64 xi, .int .i64 xj, .int .i32 xb] 100)).heap.size = wr.heap.size + 1 by simp] at h
        exact h
      have HSZ := Lib.hid (Nat.le_trans HN.out.size hN2.size)
      have HN2 := Lib.hid hN2
      have HBL := Lib.hid hbl
      clear hown hxm hsucc hl5 hq2 hu x3 hbA hN2 hbl
      go_wp2_with (at_builtin; (refine wpList_append_elems rfl _ _ 30 rfl w1.heap.size 5 i0 (.int .u8 0) 1 1 Try.underlying30 hi0 hz0 hz1 hz2 rfl (by decide) _ (2 + 5 * t) _ (by rfl) HOWN.out _ _ 5 5 _ (by rfl) HEL.out rfl ?c1 ?c2 ?c3 HSZ.out ?_))
      case c1 => intro y hy; simp at hy; rcases hy with rfl | rfl | rfl | rfl | rfl <;> rfl
      case c2 => unfold maxLen; omega
      case c3 => omega
      intro v' w' ho' hg' hb'
      have hF := Fr.of_grown (S := fun k => Value.ownBlock _ = some k) hg' (fun k hk _ => hk)
      have hN3 : New w1 w' := Fr.then (HN.out.trans HN2.out) hF (fun _ _ e => e) (fun k hk e => by
        have h1 := (own_row HBL.out e).1
        omega)
      have HO' := Lib.hid ho'
      clear ho' hg' hb' hF
      go_wp2_with fail
      refine ⟨⟨t + 1, by omega, by go_num, ?_, hN3⟩, by simp [intOf] <;> omega⟩
      show World.ownsRow _ _ _ _ _ _ _
      rw [HSU.out, ints8_append, HU.out, show 2 + 5 * (t + 1) = 2 + 5 * t + 5 by omega]
      exact HO'.out
    · have htz : ¬ (t : Int) < m := by omega
      have hte : t = m := by omega
      have h1 := HB.out
      rw [hte] at h1
      have HB2 := Lib.hid h1
      obtain ⟨Ab, cb, hvb⟩ := own_form h1
      subst hvb
      clear h1 hte
      go_wp2_with fail
      go_ret2
      refine ⟨_, rfl, ?_, N1.out.trans HN.out⟩
      have hl := packTo_length z m (by rw [HM.out]; exact Nat.le_refl _)
      have e : packB z = packTo z m := by unfold packB; rw [HM.out]
      rw [e, hl]
      exact own_lower HB2.out N1.out.size
end Go.Proofs.Ytapfihlgemejiaa
-- slices.Equal of bytes.
namespace Go.Proofs.Ytapfihlgemejiaa
open Go.RowKit
theorem takeSame {l m : List Int} {k : Nat} (h : l.take k = m.take k) (hl : k < l.length) (hm : k < m.length) (he : gt l k = gt m k) : l.take (k + 1) = m.take (k + 1) := by
  rw [List.take_add_one, List.take_add_one, h, List.getElem?_eq_getElem hl, List.getElem?_eq_getElem hm]
  unfold gt at he
  rw [List.getD_eq_getElem?_getD, List.getD_eq_getElem?_getD, List.getElem?_eq_getElem hl, List.getElem?_eq_getElem hm] at he
  simp only [Option.getD_some] at he
  rw [he]
theorem takeOther {l m : List Int} {k : Nat} (he : gt l k ≠ gt m k) : l ≠ m := fun e => he (by rw [e])

set_option maxRecDepth 100000 in
set_option maxHeartbeats 1000000 in
theorem equal_bytes_any (A B : Option Addr) (c d : Nat) (l m : List Int) (w : World) (hA : Elems w w.heap.size A (l.map (Value.int .u8))) (hB : Elems w w.heap.size B (m.map (Value.int .u8))) (hl : l.length < 4611686018427387904) :
    Calls Try.prog 155 #[.slice A l.length c, .slice B m.length d] w fun e w' => e = .returned (.bool (decide (l = m))) ∧ Drew w w' := by
  by_cases hlen : l.length = m.length
  · have HA := Lib.hid hA
    have HB := Lib.hid hB
    clear hA hB
    have HLEN := Lib.hid hlen
    rw [← hlen]
    clear hlen
    go_enter Try.func155, Try.ntmps155
    go_wp2_with fail
    go_loopw [13] (fun ci wr => ∃ k : Nat, k ≤ l.length ∧ ci = .int .i64 k ∧ Drew w wr ∧ l.take k = m.take k) (fun cn _ => l.length - (intOf cn).toNat)
    case atStart => exact ⟨0, by omega, rfl, Drew.refl w, rfl⟩
    case round =>
      obtain ⟨k, hk, rfl, hd, hs⟩ := hrel
      by_cases hlt : k < l.length
      · have hkk : (k : Int) < l.length := by omega
        have hkm : k < m.length := HLEN.out ▸ hlt
        obtain ⟨b1, o1, rfl, hb1, hc1⟩ := (HA.out.new hd.new (Nat.le_refl _)).ints k hlt
        obtain ⟨b2, o2, rfl, hb2, hc2⟩ := (HB.out.new hd.new (Nat.le_refl _)).ints k hkm
        have hb1 : b1 < wr.heap.size := Nat.lt_of_lt_of_le hb1 hd.new.size
        have hb2 : b2 < wr.heap.size := Nat.lt_of_lt_of_le hb2 hd.new.size
        have hnext : gt l k = gt m k → l.take (k + 1) = m.take (k + 1) := takeSame hs hlt hkm
        have hno : gt l k ≠ gt m k → decide (l = m) = false := fun h => decide_eq_false (takeOther h)
        have HN := Lib.hid hnext
        have HNO := Lib.hid hno
        clear hnext hno hs hkm
        generalize gt l k = x at *
        generalize gt m k = y at *
        by_cases hxy : x = y
        · have HN1 := Lib.hid (HN.out hxy)
          clear HN HNO
          subst hxy
          have hxx : (x == x) = true := by simp
          go_wp2_with fail
          go_quiet (fail)
          go_wp2_with fail
          exact ⟨⟨k + 1, by omega, by go_num, hd.drewN _, HN1.out⟩, by simp [intOf]; omega⟩
        · have hxyb : (x == y) = false := by simpa using hxy
          go_wp2_with fail
          go_quiet (fail)
          go_wp2_with fail
          go_ret
          rw [HNO.out hxy]
          exact ⟨rfl, hd.drewN _⟩
      · have : k = l.length := by omega
        subst this
        have he : l = m := by
          rw [List.take_length, HLEN.out, List.take_length] at hs
          exact hs
        have HE := Lib.hid (decide_eq_true he)
        clear he hs
        go_wp2_with fail
        go_ret
        rw [HE.out]
        exact ⟨rfl, hd⟩
  · have hno : decide (l = m) = false := decide_eq_false fun e => hlen (by rw [e])
    have HNO := Lib.hid hno
    have hlen2 : ((l.length : Int) == (m.length : Int)) = false := by simp; omega
    clear hno hA hB
    go_enter Try.func155, Try.ntmps155
    go_wp2_with fail
    go_ret
    rw [HNO.out]
    exact ⟨rfl, Drew.refl w⟩
end Go.Proofs.Ytapfihlgemejiaa
