/- Walks over package gnomonlaw16: live. -/
import Derived.Test.YtapfihlgemejiaaS8
namespace Go.Proofs.Ytapfihlgemejiaa
open Go.RowKit

set_option maxRecDepth 100000 in
set_option maxHeartbeats 2000000 in
theorem live16_any (w : World) : Calls Try.prog 19 #[] w fun e w' => e = .returned (.bool true) ∧ New w w' := by
  go_enter Try.func19, Try.ntmps19
  go_wp2_with fail
  refine (new_any false w.heap.size w (Nat.le_refl _)).mono ?_
  rintro e w1 ⟨rfl, hst, hn⟩
  have hB := hn.below (Nat.le_refl _)
  generalize w.heap.size + 1 = ps at *
  clear hn
  go_wp2_with fail
  -- the first zone
  refine (upTo_any 3 up3 (by decide) (by decide) _).mono ?_
  rintro e w2 ⟨z1, rfl, _, hz, hn2⟩
  have hn12 : New w1 w2 := ((New.refl w1).alloc _).trans hn2
  have hkey := ((elemsT_new w1 5 [.int .u8 1]).keeps hn2.keeps (by decide) (by decide))
  have hst2 := hst.new hn12
  have hb2 := hB.trans (hn12.below hB.size)
  have hput := put_store w2 hst2 _ 1 [1] (Held.of_type (base := w.heap.size) hkey (by decide) (by decide)) bytes1 (by decide) z1 (upZ 3) hz hb2.size (by rw [s0_cov]; decide) (by rw [s0_len]; decide)
  rw [s0_len, s0_drop] at hput
  have HP := Lib.hid hput
  clear hput hst hst2 hkey hz hB hn2 hn12
  go_wp2_with fail
  refine HP.out.mono ?_
  rintro e w3 ⟨vd, ka, kc, rfl, hvd, hst, _, hbl⟩
  have hB := hb2.trans hbl
  obtain ⟨A1, c1, rfl⟩ := own_form hvd
  rw [List.length_nil]
  clear HP hb2 hbl hvd
  go_wp2_with fail
  -- the second
  refine (upTo_any 5 up5 (by decide) (by decide) _).mono ?_
  rintro e w4 ⟨z2, rfl, _, hz, hn2⟩
  have hn12 : New w3 w4 := ((New.refl w3).alloc _).trans hn2
  have hkey := ((elemsT_new w3 5 [.int .u8 1]).keeps hn2.keeps (by decide) (by decide))
  have hst2 := hst.new hn12
  have hb2 := hB.trans (hn12.below hB.size)
  have hput := put_store w4 hst2 _ 1 [1] (Held.of_type (base := w.heap.size) hkey (by decide) (by decide)) bytes1 (by decide) z2 (upZ 5) hz hb2.size (by rw [← s1, s1_cov]; decide) (by rw [← s1, s1_len]; decide)
  rw [← s1, s1_len, s1_drop] at hput
  have HP := Lib.hid hput
  clear hput hst hst2 hkey hz hB hn2 hn12
  go_wp2_with fail
  refine HP.out.mono ?_
  rintro e w5 ⟨vd, ka2, kc2, rfl, hvd, hst, _, hbl⟩
  have hB := hb2.trans hbl
  obtain ⟨A2, c2, rfl⟩ := own_form hvd
  rw [List.length_singleton]
  rw [← s2] at hst
  clear HP hb2 hbl hvd
  go_wp2_with fail
  -- the third
  refine (upTo_any 4 up4 (by decide) (by decide) _).mono ?_
  rintro e w6 ⟨z3, rfl, _, hz, hn2⟩
  have hn12 : New w5 w6 := ((New.refl w5).alloc _).trans hn2
  have hkey := ((elemsT_new w5 5 [.int .u8 1]).keeps hn2.keeps (by decide) (by decide))
  have hst2 := hst.new hn12
  have hb2 := hB.trans (hn12.below hB.size)
  have hput := put_covered w6 hst2 _ 1 [1] hkey.elems bytes1 z3 (upZ 4) hz (by rw [s2_cov]; decide)
  rw [s2_cov] at hput
  have HP := Lib.hid hput
  clear hput hst hkey hz hB hn2 hn12
  go_wp2_with fail
  refine HP.out.mono ?_
  rintro e w7 ⟨rfl, hd⟩
  have hst := hst2.drew hd
  have hB := hb2.trans (hd.new.below hb2.size)
  clear HP hst2 hb2 hd
  go_wp2_with fail
  refine (take_some w7 hst hB.size (s2_wait _ _ _ _ _ _)).mono ?_
  rintro e w8 ⟨rfl, hst8, _, hbl⟩
  have hB8 := hB.trans hbl
  have hg := gone_at w8 0 hst8 (by rw [s2_len2]; decide)
  rw [s2_gone] at hg
  have HG := Lib.hid hg
  clear hg hst hB hbl
  go_wp2_with fail
  refine HG.out.mono ?_
  rintro e w9 ⟨rfl, hn⟩
  have hl := len_any w9 (hst8.new hn)
  rw [s2_len2] at hl
  have HL := Lib.hid hl
  have hB := hB8.trans (hn.below hB8.size)
  clear hl HG hst8 hn hB8
  go_wp2_with fail
  refine HL.out.mono ?_
  rintro e w10 ⟨rfl, rfl⟩
  go_wp2_with fail
  go_ret
  exact ⟨rfl, new_of_below hB⟩
end Go.Proofs.Ytapfihlgemejiaa
