/- Walks over package gnomonlaw16: PassedFull. -/
import Derived.Test.YtapfihlgemejiaaS9
namespace Go.Proofs.Ytapfihlgemejiaa
open Go.RowKit

def keyOf (i : Nat) : List Int := [(i : Int) % 256, (i : Int) / 256]
theorem keyOf_inj {i j : Nat} (h : keyOf i = keyOf j) : i = j := by
  unfold keyOf at h
  simp only [List.cons.injEq, and_true] at h
  omega
theorem keyOf_bytes (i : Nat) (hi : i < 65536) : Bytes (keyOf i) := by
  intro x hx
  unfold keyOf at hx
  simp only [List.mem_cons, List.not_mem_nil, or_false] at hx
  omega

/-- A store of so many zones, each under its own key. -/
structure Full (s : Sto) (m : Nat) : Prop where
  len : s.ents.length = m
  ent : ∀ k, k < m → (entAt s.ents k).key = keyOf k ∧ (entAt s.ents k).zone = upZ 3 ∧ (entAt s.ents k).gone = false

theorem Full.none {s : Sto} {m i : Nat} (h : Full s m) (hi : m ≤ i) : idxs s.ents (keyOf i) = [] := by
  unfold idxs
  rw [List.filter_eq_nil_iff]
  intro k hk
  rw [List.mem_range, h.len] at hk
  unfold under
  rw [(h.ent k hk).1]
  have : keyOf k ≠ keyOf i := fun e => by
    have := keyOf_inj e
    omega
  simp [this]
theorem Full.cov {s : Sto} {m i : Nat} (h : Full s m) (hi : m ≤ i) (z : Zn) : coversS s.ents (keyOf i) z = -1 := by
  unfold coversS
  rw [h.none hi]; rfl
theorem Full.drop {s : Sto} {m i : Nat} (h : Full s m) (hi : m ≤ i) (z : Zn) : dropped s.ents (keyOf i) z = [] := by
  unfold dropped
  rw [h.none hi]; rfl
theorem Full.put {s : Sto} {m : Nat} (h : Full s m) (ka : Option (Nat × Nat)) (kc zb : Nat) : Full (putS s (keyOf m) (upZ 3) ka kc zb) (m + 1) := by
  have hd : dropAll s.ents (dropped s.ents (keyOf m) (upZ 3)) = s.ents := by rw [h.drop (Nat.le_refl _)]; rfl
  unfold putS
  rw [hd]
  refine ⟨by simp [h.len], fun k hk => ?_⟩
  by_cases hk2 : k < m
  · simp only
    rw [entAt_append_left (by rw [h.len]; exact hk2)]
    exact h.ent k hk2
  · have : k = m := by omega
    subst this
    have e1 : ∀ e : Ent, entAt (s.ents ++ [e]) k = e := fun e => by
      have := entAt_append_right (l := s.ents) (e := e)
      rwa [h.len] at this
    simp only
    rw [e1]
    exact ⟨rfl, rfl, rfl⟩
theorem Full.zero (last : Bool) : Full (newSto last) 0 := ⟨rfl, fun k hk => by omega⟩
theorem inc32 : inclB (upZ 3) (upZ 2) = true := by kernel_rfl
theorem Full.cov0 {s : Sto} {m : Nat} (h : Full s m) (hm : 0 < m) : coversS s.ents (keyOf 0) (upZ 2) = 0 := by
  have hu : under s.ents (keyOf 0) 0 = true := by
    unfold under
    rw [(h.ent 0 hm).1, (h.ent 0 hm).2.2]; simp
  have hx : ∃ r, idxs s.ents (keyOf 0) = 0 :: r := by
    unfold idxs
    rw [h.len]
    obtain ⟨k, rfl⟩ : ∃ k, m = k + 1 := ⟨m - 1, by omega⟩
    rw [List.range_succ_eq_map, List.filter_cons, if_pos hu]
    exact ⟨_, rfl⟩
  obtain ⟨r, hr⟩ := hx
  unfold coversS
  rw [hr]
  exact firstIn_cons_yes (by rw [(h.ent 0 hm).2.1]; exact inc32)

set_option maxRecDepth 100000 in
set_option maxHeartbeats 2000000 in
theorem passedFull_any (n : Int) (last : Bool) (w : World) : Calls Try.prog 3 #[.int .i64 n, .bool last] w fun e w' => e = .returned (.bool true) ∧ New w w' := by
  by_cases h0 : n < 0
  · go_enter Try.func3, Try.ntmps3
    go_wp2_with fail
    refine (live16_any w).mono ?_
    rintro e w1 ⟨rfl, hn⟩
    go_wp2_with fail
    go_ret
    exact ⟨rfl, hn⟩
  by_cases h1 : 5000 < n
  · go_enter Try.func3, Try.ntmps3
    go_wp2_with fail
    refine (live16_any w).mono ?_
    rintro e w1 ⟨rfl, hn⟩
    go_wp2_with fail
    go_ret
    exact ⟨rfl, hn⟩
  obtain ⟨m, rfl⟩ : ∃ m : Nat, n = m := ⟨n.toNat, by omega⟩
  have hm : m ≤ 5000 := by omega
  have h1' : (m : Int) ≤ 5000 := by omega
  clear h0 h1
  go_enter Try.func3, Try.ntmps3
  go_wp2_with fail
  refine (live16_any w).mono ?_
  rintro e w1 ⟨rfl, hn⟩
  go_wp2_with fail
  refine (new_any last w.heap.size w1 hn.size).mono ?_
  rintro e w2 ⟨rfl, hst, hn2⟩
  have hB := (hn.trans hn2).below (Nat.le_refl _)
  generalize w1.heap.size + 1 = ps at *
  clear hn hn2
  go_wp2_with fail
  go_loopw [6] (fun ci wr => ∃ i : Nat, i ≤ m ∧ ci = .int .i64 i ∧ ∃ s, StoreAt w.heap.size wr ps s ∧ Full s (min i 4096) ∧ Below w.heap.size w wr)
    (fun cn _ => m - (intOf cn).toNat)
  case atStart => exact ⟨0, by omega, rfl, _, hst, Full.zero last, hB⟩
  case round =>
    obtain ⟨i, hi, rfl, s, hs, hf, hb⟩ := hrel
    clear hst hB
    by_cases hlt : i < m
    · have hlt2 : (i : Int) < m := by omega
      have hi5 : i < 5000 := by omega
      go_wp2_with fail
      refine (upTo_any 3 up3 (by decide) (by decide) _).mono ?_
      rintro e wz ⟨zb, rfl, _, hz, hn2⟩
      have hn12 : New wr wz := ((New.refl wr).alloc _).trans hn2
      have hkey := ((elemsT_new wr 5 [.int .u8 ((i : Int) % 256), .int .u8 ((i : Int) / 256)]).keeps hn2.keeps (by decide) (by decide))
      have hs2 := hs.new hn12
      have hb2 := hb.trans (hn12.below hb.size)
      have hby := keyOf_bytes i (by omega)
      by_cases hi4 : i < 4096
      · have hmin : min i 4096 = i := by omega
        rw [hmin] at hf
        have hput := put_store wz hs2 _ 2 (keyOf i) (Held.of_type (base := w.heap.size) hkey (by decide) (by decide)) hby (by show 2 ≤ _; decide) zb (upZ 3) hz hb2.size (by rw [hf.cov (Nat.le_refl _)]; decide) (by rw [hf.len]; exact hi4)
        rw [hf.drop (Nat.le_refl _), hf.len] at hput
        have HP := Lib.hid hput
        have hi4' : (i : Int) < 4096 := by omega
        clear hput hs hs2 hkey hz hb hn2 hn12 hby hmin
        go_wp2_with fail
        refine HP.out.mono ?_
        rintro e w5 ⟨vd, ka2, kc2, rfl, hvd, hst, _, hbl⟩
        have hB := hb2.trans hbl
        obtain ⟨A2, c2, rfl⟩ := own_form hvd
        rw [List.length_nil]
        have hmin : min (i + 1) 4096 = i + 1 := by omega
        have hf2 : Full (putS s (keyOf i) (upZ 3) ka2 kc2 zb) (min (i + 1) 4096) := by rw [hmin]; exact hf.put ka2 kc2 zb
        clear HP hb2 hbl hvd hmin
        go_wp2_with fail
        exact ⟨⟨i + 1, by omega, by go_num, _, hst, hf2, hB⟩, by simp [intOf]; omega⟩
      · have hmin : min i 4096 = 4096 := by omega
        rw [hmin] at hf
        have hput := put_full wz hs2 _ 2 (keyOf i) hkey.elems hby zb (upZ 3) hz (by rw [hf.cov (by omega)]; decide) (by rw [hf.len]; decide)
        have HP := Lib.hid hput
        have hi4' : ¬ (i : Int) < 4096 := by omega
        clear hput hs hkey hz hb hn2 hn12 hby hmin
        go_wp2_with fail
        refine HP.out.mono ?_
        rintro e w5 ⟨rfl, hd⟩
        have hst := hs2.drew hd
        have hB := hb2.trans (hd.new.below hb2.size)
        have hmin : min (i + 1) 4096 = 4096 := by omega
        rw [← hmin] at hf
        clear HP hb2 hs2 hmin hd
        go_wp2_with fail
        exact ⟨⟨i + 1, by omega, by go_num, _, hst, hf, hB⟩, by simp [intOf]; omega⟩
    · have : i = m := by omega
      subst this
      go_wp2_with fail
      refine (upTo_any 2 up2 (by decide) (by decide) _).mono ?_
      rintro e wz ⟨zb, rfl, _, hz, hn2⟩
      have hn12 : New wr wz := ((New.refl wr).alloc _).trans hn2
      have hkey := ((elemsT_new wr 5 [.int .u8 0, .int .u8 0]).keeps hn2.keeps (by decide) (by decide))
      have hs2 := hs.new hn12
      have hb2 := hb.trans (hn12.below hb.size)
      have hby := keyOf_bytes 0 (by omega)
      by_cases hi0 : i = 0
      · subst hi0
        have hf : Full s 0 := hf
        have hput := put_store wz hs2 _ 2 (keyOf 0) (Held.of_type (base := w.heap.size) hkey (by decide) (by decide)) hby (by show 2 ≤ _; decide) zb (upZ 2) hz hb2.size (by rw [hf.cov (Nat.le_refl _)]; decide) (by rw [hf.len]; decide)
        rw [hf.drop (Nat.le_refl _), hf.len] at hput
        have HP := Lib.hid hput
        have hlen : ∀ ka kc, (putS s (keyOf 0) (upZ 2) ka kc zb).ents.length = 1 := fun ka kc => by
          unfold putS
          simp [dropAll_length, hf.len]
        have HLEN := Lib.hid hlen
        clear hput hs hs2 hkey hz hb hn2 hn12 hby hlen
        go_wp2_with fail
        refine HP.out.mono ?_
        rintro e w5 ⟨vd, ka2, kc2, rfl, hvd, hst, _, hbl⟩
        have hB := hb2.trans hbl
        obtain ⟨A2, c2, rfl⟩ := own_form hvd
        rw [List.length_nil]
        have hl := len_any w5 hst
        rw [HLEN.out] at hl
        have HL := Lib.hid hl
        have hmo := most_any (0 : Nat) w5
        have HMO := Lib.hid hmo
        clear HP hb2 hbl hvd hl hmo
        go_wp2_with fail
        refine HL.out.mono ?_
        rintro e w6 ⟨rfl, rfl⟩
        go_wp2_with fail
        refine HMO.out.mono ?_
        rintro e w6 ⟨rfl, rfl⟩
        go_wp2_with fail
        go_ret
        exact ⟨rfl, new_of_below hB⟩
      · have hput := put_covered wz hs2 _ 2 (keyOf 0) hkey.elems hby zb (upZ 2) hz (by rw [hf.cov0 (by omega)]; decide)
        rw [hf.cov0 (by omega)] at hput
        have HP := Lib.hid hput
        have hi0' : ((i : Int) == 0) = false := by simpa using hi0
        have hlen := hf.len
        have HLEN := Lib.hid hlen
        clear hput hs hkey hz hb hn2 hn12 hby hlen hf
        go_wp2_with fail
        refine HP.out.mono ?_
        rintro e w5 ⟨rfl, hd⟩
        have hst := hs2.drew hd
        have hB := hb2.trans (hd.new.below hb2.size)
        have hl := len_any w5 hst
        rw [HLEN.out] at hl
        have HL := Lib.hid hl
        have hmo := most_any i w5
        have hme : (if (4096 : Int) < i then (4096 : Int) else if (i : Int) = 0 then 1 else i) = ((min i 4096 : Nat) : Int) := by
          split
          · omega
          · rw [if_neg (by omega)]; omega
        rw [hme] at hmo
        have HMO := Lib.hid hmo
        clear HP hb2 hl hmo hme hs2 hd
        generalize min i 4096 = mm at *
        go_wp2_with fail
        refine HL.out.mono ?_
        rintro e w6 ⟨rfl, rfl⟩
        go_wp2_with fail
        refine HMO.out.mono ?_
        rintro e w6 ⟨rfl, rfl⟩
        go_wp2_with fail
        go_ret
        exact ⟨by simp, new_of_below hB⟩
end Go.Proofs.Ytapfihlgemejiaa
