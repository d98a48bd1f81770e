/- Walks over package gnomonlaw16: PassedOwn. -/
import Derived.Test.YtapfihlgemejiaaS9
import Derived.Test.YtapfihlgemejiaaS14
import Derived.Test.YtapfihlgemejiaaS18
import Derived.Test.YtapfihlgemejiaaS23
import Derived.Test.YtapfihlgemejiaaA8
namespace Go.Proofs.Ytapfihlgemejiaa
open Go.RowKit

theorem New.of_below {w w' : World} (h : Below w.heap.size w w') : New w w' := ⟨h.os, h.tape, h.output, h.size, fun k hk _ => h.block k hk⟩
theorem nats_ints (l : List Nat) : nats l = (l.map fun i : Nat => (i : Int)).map (Value.int .i64) := by simp [nats, List.map_map, Function.comp_def]
/-- The book under way: lists of bytes (two each round), lists of numbers. -/
def Taken (w3 : World) (pb nb ni : Nat) (wr : World) : Prop := ∃ vb vi bs is ys zs, bs.length = nb ∧ is.length = ni ∧ BookAt w3.heap.size wr pb vb vi bs is ∧ Fam w3.heap.size wr 5 .u8 bs ys ∧ Fam w3.heap.size wr 3 .i64 is zs ∧
  (∀ t, (ys t).length ≤ 140737488351232) ∧ (∀ t, (zs t).length ≤ 4096) ∧ Below w3.heap.size w3 wr
theorem Taken.new {w3 wr : World} {pb nb ni : Nat} (h : Taken w3 pb nb ni wr) : New w3 wr := by
  obtain ⟨_, _, _, _, _, _, _, _, _, _, _, _, _, hb⟩ := h
  exact New.of_below hb
theorem bookAt_new {base pb : Nat} {w w' : World} {vb vi : Value} {bs is : List Value} (h : BookAt base w pb vb vi bs is) (hn : New w w') : BookAt base w' pb vb vi bs is :=
  h.keep (hn.keepsBut (fun _ => False)) (fun e => e) (fun e => e) (fun e => e)
/-- A call that turns nothing old leaves the book. -/
theorem Taken.still {w3 wr w' : World} {pb nb ni : Nat} (h : Taken w3 pb nb ni wr) (hn : New wr w') : Taken w3 pb nb ni w' := by
  obtain ⟨vb, vi, bs, is, ys, zs, h1, h2, hk, hf, hg, h3, h4, hb⟩ := h
  exact ⟨vb, vi, bs, is, ys, zs, h1, h2, bookAt_new hk hn, hf.new hn, hg.new hn, h3, h4, hb.trans (hn.below hb.size)⟩
/-- A list of bytes that is new is taken. -/
theorem taken_bytes {w3 wr w' : World} {pb nb ni : Nat} {A : Option Addr} {c : Nat} {y : List Int} (h : Taken w3 pb nb ni wr) (hn : New wr w')
    (ho : w'.ownsRow wr.heap.size 5 1 (.slice A y.length c) y.length (y.map (Value.int .u8))) (hy : y.length ≤ 140737488351232) (hm : nb ≤ 100000) :
    Calls Try.prog 33 #[.pointer (some ⟨pb, 0, none⟩), .slice A y.length c] w' fun e w2 => e = .returned (.tuple #[]) ∧ Taken w3 pb (nb + 1) ni w2 := by
  obtain ⟨vb, vi, bs, is, ys, zs, h1, h2, hk, hf, hg, h3, h4, hb⟩ := h
  have hb' := hb.trans (hn.below hb.size)
  refine (takeBytes_any A y.length c w' (bookAt_new hk hn) hb'.size (by omega)).mono ?_
  rintro e w2 ⟨rfl, ⟨v2, hk2⟩, hkp, hb2⟩
  refine ⟨rfl, v2, vi, _, is, _, zs, by simp [h1], h2, hk2, (hf.snoc hn ho hb.size).keep hkp (by decide), (hg.new hn).keep hkp (by decide), ?_, h4, hb'.trans hb2⟩
  intro t
  split
  · exact hy
  · exact h3 t
/-- A list of numbers that is new is taken. -/
theorem taken_ints {w3 wr w' : World} {pb nb ni : Nat} {A : Option Addr} {c : Nat} {y : List Int} (h : Taken w3 pb nb ni wr) (hn : New wr w')
    (ho : w'.ownsRow wr.heap.size 3 1 (.slice A y.length c) y.length (y.map (Value.int .i64))) (hy : y.length ≤ 4096) (hm : ni ≤ 100000) :
    Calls Try.prog 34 #[.pointer (some ⟨pb, 0, none⟩), .slice A y.length c] w' fun e w2 => e = .returned (.tuple #[]) ∧ Taken w3 pb nb (ni + 1) w2 := by
  obtain ⟨vb, vi, bs, is, ys, zs, h1, h2, hk, hf, hg, h3, h4, hb⟩ := h
  have hb' := hb.trans (hn.below hb.size)
  refine (takeInts_any A y.length c w' (bookAt_new hk hn) hb'.size (by omega)).mono ?_
  rintro e w2 ⟨rfl, ⟨v2, hk2⟩, hkp, hb2⟩
  refine ⟨rfl, vb, v2, bs, _, ys, _, h1, by simp [h2], hk2, (hf.new hn).keep hkp (by decide), (hg.snoc hn ho hb.size).keep hkp (by decide), h3, ?_, hb'.trans hb2⟩
  intro t
  split
  · exact hy
  · exact h4 t
theorem taken_start (w3 : World) : Taken w3 w3.heap.size 0 0 (w3.alloc (.cells (bookRow noSl noSl).toArray 65)) :=
  ⟨noSl, noSl, [], [], fun _ => [], fun _ => [], rfl, rfl, ⟨Row.new w3 65 _, Nat.le_refl _, World.ownsRow_nil _ _ _ _, World.ownsRow_nil _ _ _ _⟩, Fam.nil _ _ _ _ _, Fam.nil _ _ _ _ _, fun _ => Nat.zero_le _, fun _ => Nat.zero_le _,
    ((New.refl w3).alloc _).below (Nat.le_refl _)⟩
/-- All lists are the caller's. -/
theorem taken_alone {w3 wr : World} {pb nb ni : Nat} (h : Taken w3 pb nb ni wr) (hm : nb ≤ 100000) (hi : ni ≤ 100000) :
    Calls Try.prog 36 #[.pointer (some ⟨pb, 0, none⟩)] wr fun e w2 => e = .returned (.bool true) ∧ New w3 w2 := by
  obtain ⟨vb, vi, bs, is, ys, zs, h1, h2, hk, hf, hg, h3, h4, hb⟩ := h
  refine (alone_any wr hk hf hg h3 h4 (by omega) (by omega) hb.size).mono ?_
  rintro e w2 ⟨he, _, hb2⟩
  exact ⟨he, New.of_below (hb.trans hb2)⟩
theorem StpsAt.up {w : World} {B B' : Nat} {A : Option Addr} {l : List Stp} (h : StpsAt w B A l) (hB : B ≤ B') : StpsAt w B' A l := ⟨h.1, fun i x hx => by
  obtain ⟨b, o, hA, hb, hs⟩ := h.2 i x hx
  obtain ⟨A1, c1, k1, e1⟩ := hs.key
  obtain ⟨A2, c2, k2, e2⟩ := hs.cells
  exact ⟨b, o, hA, by omega, ⟨hs.kind, ⟨A1, c1, k1, e1.mono hB⟩, hs.num, ⟨A2, c2, k2, e2.mono hB⟩, hs.bytes, hs.len⟩⟩⟩
theorem waitS_few (s : Sto) : (waitS s).length ≤ s.ents.length := by
  unfold waitS
  split
  · rw [List.length_reverse]; exact Nat.le_trans (List.length_filter_le _ _) (by simp)
  · exact Nat.le_trans (List.length_filter_le _ _) (by simp)
theorem idxs_few (l : List Ent) (key : List Int) : (idxs l key).length ≤ l.length := by
  unfold idxs
  exact Nat.le_trans (List.length_filter_le _ _) (by simp)
/-- A call's new list of numbers, as the book takes it. -/
def newInts (l : List Nat) (w : World) (e : Ending) (w' : World) : Prop := ∃ (A : Option Addr) (c : Nat) (y : List Int), y = (l.map fun i : Nat => (i : Int)) ∧ e = .returned (.slice A y.length c) ∧
  w'.ownsRow w.heap.size 3 1 (.slice A y.length c) y.length (y.map (Value.int .i64)) ∧ New w w'
theorem newInts_mk {l : List Nat} {w w' : World} {e : Ending} {A : Option Addr} {c : Nat} (he : e = .returned (.slice A l.length c)) (ho : w'.ownsRow w.heap.size 3 1 (.slice A l.length c) l.length (nats l)) (hn : New w w') : newInts l w e w' := by
  refine ⟨A, c, _, rfl, ?_, ?_, hn⟩
  · rw [List.length_map]; exact he
  · rw [List.length_map, ← nats_ints]; exact ho
set_option maxRecDepth 100000 in
set_option maxHeartbeats 4000000 in
theorem passedOwn_any (last : Bool) (A : Option Addr) (c : Nat) (l : List Stp) (w : World) (hl : StpsAt w w.heap.size A l) (hkl : ∀ x ∈ l, x.key.length ≤ 140737488351232) :
    Calls Try.prog 6 #[.bool last, .slice A l.length c] w fun e w' => e = .returned (.bool true) ∧ Below w.heap.size w w' := by
  have HL := Lib.hid hl
  have HKL := Lib.hid hkl
  have hlen := hl.1
  clear hl hkl
  obtain ⟨base, hbase⟩ : ∃ b, b = w.heap.size := ⟨_, rfl⟩
  rw [← hbase] at HL ⊢
  have hb : base ≤ w.heap.size := by omega
  clear hbase
  go_enter Try.func6, Try.ntmps6
  go_wp2_with fail
  refine (live16_any w).mono ?_
  rintro e w1 ⟨rfl, hn⟩
  have hB := hn.below hb
  have hrun := run16_any base last A c l w1 (HL.out.below hB) (Nat.le_trans hb hB.size)
  have HRUN := Lib.hid hrun
  have HB := Lib.hid hB
  clear hn hrun hB
  go_wp2_with fail
  refine HRUN.out.mono ?_
  rintro e w2 ⟨ps, s, rfl, hst, hr, hB2⟩
  have hB2 := HB.out.trans hB2
  have hrun := run16_any w2.heap.size last A c l w2 ((HL.out.below hB2).up (Nat.le_trans hb hB2.size)) (Nat.le_refl _)
  have HRUN2 := Lib.hid hrun
  have HST := Lib.hid hst
  have HR := Lib.hid hr
  clear HRUN HB hst hr hrun
  go_wp2_with fail
  refine HRUN2.out.mono ?_
  rintro e w3 ⟨pw, t, rfl, htt, hr2, hB3⟩
  have hn3 := New.of_below hB3
  have hss := HST.out.new hn3
  obtain ⟨a1, a2, a3⟩ := ran_same HR.out hr2
  have AL := Lib.hid (And.intro a1 (And.intro a2 a3))
  have KL := Lib.hid (fun i => And.intro (ran_key_len HR.out HKL.out i) (ran_key_len hr2 HKL.out i))
  have hfew := hss.few
  have SS := Lib.hid (fun W (hn : New w3 W) => hss.new hn)
  have TT := Lib.hid (fun W (hn : New w3 W) => htt.new hn)
  have hts := taken_start w3
  have HTS := Lib.hid hts
  have HBB := Lib.hid (And.intro (hB2.trans (hn3.below (Nat.le_trans hb hB2.size))) (Nat.le_trans hb (Nat.le_trans hB2.size hn3.size)))
  have L3 := Lib.hid (fun W (hn : New w3 W) => len_any W (hss.new hn))
  have K1 := Lib.hid (fun W (hn : New w3 W) i hi => key_got (w := W) i (hss.new hn) hi)
  have K2 := Lib.hid (fun W (hn : New w3 W) i hi => key_got (w := W) i (htt.new hn) hi)
  have W1 := Lib.hid (fun W (hn : New w3 W) => (waiting_any W (hss.new hn)).mono fun _ _ ⟨A, c, he, ho, hn⟩ => newInts_mk he ho hn)
  have W2 := Lib.hid (fun W (hn : New w3 W) => (waiting_any W (htt.new hn)).mono fun _ _ ⟨A, c, he, ho, hn⟩ => newInts_mk he ho hn)
  clear HRUN2 HST HR hn3 hss htt hr2 hB2 hB3 a1 a2 a3 hts hlen HL HKL
  go_wp2_with fail
  go_loopw [8] (fun ci wr => ∃ i : Nat, i ≤ s.ents.length ∧ ci = .int .i64 i ∧ Taken w3 w3.heap.size (2 * i) i wr) (fun cn _ => s.ents.length - (intOf cn).toNat)
  case atStart => exact ⟨0, by omega, rfl, HTS.out⟩
  case round =>
    obtain ⟨i, hi, rfl, hT⟩ := hrel
    have L4 := Lib.hid (L3.out wr hT.new)
    by_cases hlt : i < s.ents.length
    · have hii : (i : Int) < s.ents.length := by omega
      have K3 := Lib.hid (K1.out wr hT.new i hlt)
      have HT := Lib.hid hT
      clear hT
      go_wp2_with fail
      refine L4.out.mono ?_
      rintro e w5 ⟨rfl, rfl⟩
      go_wp2_with fail
      refine K3.out.mono ?_
      rintro e w5 ⟨A1, c1, rfl, ho1, hn1⟩
      have B1 := Lib.hid (taken_bytes HT.out hn1 ho1 (KL.out i).1 (by omega))
      clear ho1 hn1 HT K3 L4
      go_wp2_with fail
      refine B1.out.mono ?_
      rintro e w6 ⟨rfl, hT6⟩
      have K3 := Lib.hid (K1.out w6 hT6.new i hlt)
      have HT6 := Lib.hid hT6
      clear B1 hT6
      go_wp2_with fail
      refine K3.out.mono ?_
      rintro e w7 ⟨A2, c2, rfl, ho2, hn2⟩
      have B2 := Lib.hid (taken_bytes HT6.out hn2 ho2 (KL.out i).1 (by omega))
      clear ho2 hn2 HT6 K3
      go_wp2_with fail
      refine B2.out.mono ?_
      rintro e w8 ⟨rfl, hT8⟩
      have K3 := Lib.hid (K2.out w8 hT8.new i (by have := AL.out.1; omega))
      have HT8 := Lib.hid hT8
      clear B2 hT8
      go_wp2_with fail
      refine K3.out.mono ?_
      rintro e w9 ⟨A3, c3, rfl, ho3, hn3⟩
      have hn9 := HT8.out.new.trans hn3
      have HT9 := Lib.hid (HT8.out.still hn3)
      have OF := Lib.hid ((of_any_key w9 (SS.out w9 hn9) A3 c3 (entAt t.ents i).key (elems_of_own ho3) ((TT.out w9 hn9).bytes i (by have := AL.out.1; omega))).mono fun _ _ ⟨A, c, he, ho, hn⟩ => newInts_mk he ho hn)
      clear ho3 hn3 HT8 K3 hn9
      go_wp2_with fail
      refine OF.out.mono ?_
      rintro e w10 ⟨A4, c4, y4, hy4, rfl, ho4, hn4⟩
      have B4 := Lib.hid (taken_ints HT9.out hn4 ho4 (by rw [hy4, List.length_map]; exact Nat.le_trans (idxs_few _ _) hfew) (by omega))
      clear ho4 hn4 HT9 OF hy4
      go_wp2_with fail
      refine B4.out.mono ?_
      rintro e w11 ⟨rfl, hT11⟩
      clear B4
      go_wp2_with fail
      exact ⟨⟨i + 1, by omega, by go_num, by rw [show 2 * (i + 1) = 2 * i + 1 + 1 by omega]; exact hT11⟩, by simp [intOf]; omega⟩
    · have hie : i = s.ents.length := by omega
      subst hie
      have W3 := Lib.hid (W1.out wr hT.new)
      have HT := Lib.hid hT
      clear hT
      go_wp2_with fail
      refine L4.out.mono ?_
      rintro e w5 ⟨rfl, rfl⟩
      clear L4
      go_wp2_with fail
      refine W3.out.mono ?_
      rintro e w6 ⟨A1, c1, y1, hy1, rfl, ho1, hn1⟩
      have B1 := Lib.hid (taken_ints HT.out hn1 ho1 (by rw [hy1, List.length_map]; exact Nat.le_trans (waitS_few s) hfew) (by omega))
      clear ho1 hn1 HT W3 hy1
      go_wp2_with fail
      refine B1.out.mono ?_
      rintro e w7 ⟨rfl, hT7⟩
      have W3 := Lib.hid (W1.out w7 hT7.new)
      have HT7 := Lib.hid hT7
      clear hT7 B1
      go_wp2_with fail
      refine W3.out.mono ?_
      rintro e w8 ⟨A2, c2, y2, hy2, rfl, ho2, hn2⟩
      have B2 := Lib.hid (taken_ints HT7.out hn2 ho2 (by rw [hy2, List.length_map]; exact Nat.le_trans (waitS_few s) hfew) (by omega))
      clear ho2 hn2 HT7 W3 hy2
      go_wp2_with fail
      refine B2.out.mono ?_
      rintro e w9 ⟨rfl, hT9⟩
      have AA := Lib.hid (taken_alone hT9 (by omega) (by omega))
      clear B2 hT9
      go_wp2_with fail
      refine AA.out.mono ?_
      rintro e w10 ⟨rfl, hn10⟩
      have W3 := Lib.hid (W1.out w10 hn10)
      have N10 := Lib.hid hn10
      clear hn10 AA
      go_wp2_with fail
      refine W3.out.mono ?_
      rintro e w11 ⟨A3, c3, y3, hy3, rfl, ho3, hn11⟩
      have W4 := Lib.hid (W2.out w11 (N10.out.trans hn11))
      have N11 := Lib.hid (N10.out.trans hn11)
      have O3 := Lib.hid ho3
      have Y3 := Lib.hid hy3
      clear ho3 hy3 hn11 W3 N10
      go_wp2_with fail
      refine W4.out.mono ?_
      rintro e w12 ⟨A4, c4, y4, hy4, rfl, ho4, hn12⟩
      have SI := Lib.hid (sameInts_any A3 A4 c3 c4 y3 y4 w12 (elems_of_own (own_new O3.out hn12)) (elems_of_own ho4) (by rw [Y3.out, List.length_map]; have := waitS_few s; omega))
      have hyy : decide (y3 = y4) = true := by rw [Y3.out, hy4, AL.out.2.1]; exact decide_eq_true rfl
      rw [hyy] at SI
      have N12 := Lib.hid (N11.out.trans hn12)
      clear hyy ho4 hy4 hn12 W4 N11 O3 Y3 W1 W2
      go_wp2_with fail
      refine SI.out.mono ?_
      rintro e w13 ⟨rfl, hd⟩
      have hn13 := N12.out.trans hd.new
      clear hd N12 SI
      go_wp2_with fail
      go_loopw [15] (fun ci wr => ∃ i : Nat, i ≤ s.ents.length ∧ ci = .int .i64 i ∧ New w3 wr) (fun cn _ => s.ents.length - (intOf cn).toNat)
      case atStart => exact ⟨0, by omega, rfl, hn13⟩
      case round =>
        clear hn13
        obtain ⟨i, hi2, rfl, hN⟩ := hrel
        have L4 := Lib.hid (L3.out wr hN)
        by_cases hlt2 : i < s.ents.length
        · have hii : (i : Int) < s.ents.length := by omega
          have K3 := Lib.hid (K1.out wr hN i hlt2)
          have HN := Lib.hid hN
          have LK := Lib.hid (KL.out i).1
          have EK := Lib.hid (AL.out.2.2 i)
          clear hN
          go_wp2_with fail
          refine L4.out.mono ?_
          rintro e w5 ⟨rfl, rfl⟩
          go_wp2_with fail
          refine K3.out.mono ?_
          rintro e w5 ⟨A1, c1, rfl, ho1, hn1⟩
          have K4 := Lib.hid (K2.out w5 (HN.out.trans hn1) i (by have := AL.out.1; omega))
          have N5 := Lib.hid (HN.out.trans hn1)
          have O1 := Lib.hid ho1
          clear ho1 hn1 K3 L4 HN
          go_wp2_with fail
          refine K4.out.mono ?_
          rintro e w6 ⟨A2, c2, rfl, ho2, hn2⟩
          have SA := Lib.hid (same_any A1 A2 c1 c2 (entAt s.ents i).key (entAt t.ents i).key w6 (elems_of_own (own_new O1.out hn2)) (elems_of_own ho2) (by have := LK.out; omega))
          rw [show decide ((entAt s.ents i).key = (entAt t.ents i).key) = true from decide_eq_true EK.out] at SA
          have N6 := Lib.hid (N5.out.trans hn2)
          clear ho2 hn2 K4 N5 O1 EK LK
          go_wp2_with fail
          refine SA.out.mono ?_
          rintro e w7 ⟨rfl, hd⟩
          have hn7 := N6.out.trans hd.new
          clear hd N6 SA
          go_wp2_with fail
          exact ⟨⟨i + 1, by omega, by go_num, hn7⟩, by simp [intOf]; omega⟩
        · have hie2 : i = s.ents.length := by omega
          subst hie2
          have hend := HBB.out.1.trans (hN.below HBB.out.2)
          clear hN
          go_wp2_with fail
          refine L4.out.mono ?_
          rintro e w5 ⟨rfl, rfl⟩
          go_wp2_with fail
          go_ret
          exact ⟨rfl, hend⟩
end Go.Proofs.Ytapfihlgemejiaa
