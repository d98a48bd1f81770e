/- Walks over package gnomonlaw16: PassedKeeps. -/
import Derived.Test.YtapfihlgemejiaaS12
import Derived.Test.YtapfihlgemejiaaS9
namespace Go.Proofs.Ytapfihlgemejiaa
open Go.RowKit

theorem StoreAt.zone {base : Nat} {w : World} {ps : Nat} {s : Sto} (h : StoreAt base w ps s) (i : Nat) (hi : i < s.ents.length) : ZoneAt w (entAt s.ents i).zb (entAt s.ents i).zone := by
  obtain ⟨_, _, _, _, h⟩ := h
  exact (h.entOk i hi).zone
theorem StoreAt.few {base : Nat} {w : World} {ps : Nat} {s : Sto} (h : StoreAt base w ps s) : s.ents.length ≤ 4096 := by
  obtain ⟨_, _, _, _, h⟩ := h
  exact h.ok.few
theorem StoreAt.bytes {base : Nat} {w : World} {ps : Nat} {s : Sto} (h : StoreAt base w ps s) (i : Nat) (hi : i < s.ents.length) : Bytes (entAt s.ents i).key := by
  obtain ⟨_, _, _, _, h⟩ := h
  exact (h.entOk i hi).bytes
theorem getD_mem {l : List Nat} {k : Nat} (h : k < l.length) : l.getD k 0 ∈ l := by
  rw [List.getD_eq_getElem?_getD, List.getElem?_eq_getElem h]; exact List.getElem_mem h

/-- Does one of the first k entries of a list include entry i? -/
def anyIn (s : Sto) (i : Nat) (l : List Nat) (k : Nat) : Bool := (l.take k).any fun j => inclB (entAt s.ents j).zone (entAt s.ents i).zone
theorem anyIn_succ {s : Sto} {i : Nat} {l : List Nat} {k : Nat} (h : k < l.length) : anyIn s i l (k + 1) = (anyIn s i l k || inclB (entAt s.ents (l.getD k 0)).zone (entAt s.ents i).zone) := by
  unfold anyIn; rw [take_succ_getD h, List.any_append]; simp
theorem anyIn_all {s : Sto} {i : Nat} (h : Cov s.ents (entAt s.ents i).key (entAt s.ents i).zone) : anyIn s i (idxs s.ents (entAt s.ents i).key) (idxs s.ents (entAt s.ents i).key).length = true := by
  obtain ⟨j, hj, hc⟩ := h
  unfold anyIn
  rw [List.take_length, List.any_eq_true]
  exact ⟨j, hj, hc⟩

set_option maxRecDepth 100000 in
set_option maxHeartbeats 4000000 in
theorem passedKeeps_any (last : Bool) (A : Option Addr) (c : Nat) (l : List Stp) (w : World) (hl : StpsAt w w.heap.size A l) :
    Calls Try.prog 11 #[.bool last, .slice A l.length c] w fun e w' => e = .returned (.bool true) ∧ Below w.heap.size w w' := by
  have HL := Lib.hid hl
  clear hl
  obtain ⟨base, hbase⟩ : ∃ b, b = w.heap.size := ⟨_, rfl⟩
  rw [← hbase] at HL ⊢
  have hb : base ≤ w.heap.size := by omega
  clear hbase
  go_enter Try.func11, Try.ntmps11
  go_wp2_with fail
  refine (live16_any w).mono ?_
  rintro e w1 ⟨rfl, hn⟩
  have hB := hn.below hb
  have hrun := run16_any base last A c l w1 (HL.out.below hB) (Nat.le_trans hb hB.size)
  have HRUN := Lib.hid hrun
  clear hn hrun HL
  go_wp2_with fail
  refine HRUN.out.mono ?_
  rintro e w2 ⟨ps, s, rfl, hst, hr, hB2⟩
  have hB3 := hB.trans hB2
  have hinv := inv_ran hr
  have HINV := Lib.hid hinv
  have hln := len_any w2 hst
  have HLN := Lib.hid hln
  have hfew := hst.few
  clear HRUN hr hB hB2 hinv hln
  go_wp2_with fail
  refine HLN.out.mono ?_
  rintro e w3 ⟨rfl, rfl⟩
  clear HLN
  go_wp2_with fail
  go_loopw [7] (fun ci wr => ∃ i : Nat, i ≤ s.ents.length ∧ ci = .int .i64 i ∧ StoreAt base wr ps s ∧ Below base w wr)
    (fun cn _ => s.ents.length - (intOf cn).toNat)
  case atStart => exact ⟨0, by omega, rfl, hst, hB3⟩
  case round =>
    obtain ⟨i, hi, rfl, hs, hbl⟩ := hrel
    clear hst hB3
    by_cases hlt : i < s.ents.length
    · have hii : (i : Int) < s.ents.length := by omega
      have hcov := anyIn_all (HINV.out.cov i hlt)
      have HCOV := Lib.hid hcov
      have hap : ∀ j, j ∈ idxs s.ents (entAt s.ents i).key → j ≠ i → (entAt s.ents i).gone = false → inclB (entAt s.ents j).zone (entAt s.ents i).zone = false := fun j hj hne hg =>
        HINV.out.apart _ j i hj (mem_idxs.2 ⟨hlt, rfl, hg⟩) hne
      have HAP := Lib.hid hap
      have hmem : ∀ k, k < (idxs s.ents (entAt s.ents i).key).length → (idxs s.ents (entAt s.ents i).key).getD k 0 < s.ents.length := fun k hk => idxs_lt (getD_mem hk)
      have HMEM := Lib.hid hmem
      have hill := idxs_length_le s.ents (entAt s.ents i).key
      have hkey := key_got wr i hs hlt
      have HKEY := Lib.hid hkey
      have HS := Lib.hid hs
      clear hcov hap hmem hkey hs
      go_wp2_with fail
      refine HKEY.out.mono ?_
      rintro e w4 ⟨Ak, ck, rfl, hok, hn⟩
      have hs4 := HS.out.new hn
      have hb4 := hbl.trans (hn.below (Nat.le_trans hb hbl.size))
      have hzo := zone_got w4 i hs4 hlt
      have HZO := Lib.hid hzo
      have HOK := Lib.hid hok
      clear HS HKEY hn hbl hok hzo
      go_wp2_with fail
      refine HZO.out.mono ?_
      rintro e w5 ⟨rfl, hn⟩
      have hs5 := hs4.new hn
      have hb5 := hb4.trans (hn.below (Nat.le_trans hb hb4.size))
      have hof := of_any_key w5 hs5 Ak ck (entAt s.ents i).key (elems_of_own (own_new HOK.out hn)) (hs5.bytes i hlt)
      have HOF := Lib.hid hof
      clear HZO hs4 hb4 hn hof HOK
      go_wp2_with fail
      refine HOF.out.mono ?_
      rintro e w6 ⟨Ao, co, rfl, hoo, hn⟩
      have hs6 := hs5.new hn
      have hb6 := hb5.trans (hn.below (Nat.le_trans hb hb5.size))
      have hel := elemsT_of_own hoo
      clear HOF hs5 hb5 hn hoo
      generalize hgl : idxs s.ents (entAt s.ents i).key = L at *
      clear hgl
      go_wp2_with fail
      go_loopw [14, 13] (fun ck cin wr => ∃ k : Nat, k ≤ L.length ∧ ck = .int .i64 k ∧ cin = .bool (anyIn s i L k) ∧ StoreAt base wr ps s ∧ ElemsT wr 3 Ao (nats L) ∧ Below base w wr)
        (fun cn _ _ => L.length - (intOf cn).toNat)
      case atStart => exact ⟨0, by omega, rfl, rfl, hs6, hel, hb6⟩
      case round =>
        obtain ⟨k, hk, rfl, rfl, hs, hel7, hbl⟩ := hrel
        clear hs6 hel hb6
        by_cases hkl : k < L.length
        · have hkk : (k : Int) < L.length := by omega
          have hel8 : ElemsT wr 3 Ao (L.map fun i : Nat => Value.int .i64 i) := hel7
          obtain ⟨ob, off, rfl, hobl, hcell⟩ := hel8.nats k hkl
          have hjl := HMEM.out k hkl
          have hjm := getD_mem hkl
          have hsucc := anyIn_succ (s := s) (i := i) hkl
          have HSUCC := Lib.hid hsucc
          have hapj := HAP.out _ hjm
          have HAPJ := Lib.hid hapj
          have HHS := Lib.hid hs
          have HEL := Lib.hid hel7
          clear hel7 hel8 hjm hapj hsucc hs
          generalize L.getD k 0 = j at *
          generalize anyIn s i L k = bin at *
          have hzo := zone_got wr j HHS.out hjl
          have HZO := Lib.hid hzo
          clear hzo
          go_wp2_with fail
          refine HZO.out.mono ?_
          rintro e w7 ⟨rfl, hn⟩
          have hs7 := HHS.out.new hn
          have hel7 := HEL.out.keeps hn.keeps (by decide) (by decide)
          have hb7 := hbl.trans (hn.below (Nat.le_trans hb hbl.size))
          have hel8 : ElemsT w7 3 (some ⟨ob, off, none⟩) (L.map fun i : Nat => Value.int .i64 i) := hel7
          have hsz7 := hn.size
          have hcell7 : w7.cell? ⟨ob, off + k, none⟩ = some (.int .i64 j) := by
            have e : w7.heap[ob]? = wr.heap[ob]? := hn.block ob hobl (fun e => e)
            unfold World.cell? at hcell ⊢
            rw [e]; exact hcell
          have hobl7 : ob < w7.heap.size := by omega
          have HHS7 := Lib.hid hs7
          have HEL7 := Lib.hid hel7
          clear HZO HHS HEL hcell hobl hn hs7 hel7 hel8 hbl hsz7
          have hfinal : ∀ w8, Drew w7 w8 ∨ New w7 w8 → StoreAt base w8 ps s ∧ ElemsT w8 3 (some ⟨ob, off, none⟩) (nats L) ∧ Below base w w8 := fun w8 h8 => by
            have hn8 : New w7 w8 := by
              rcases h8 with h8 | h8
              · exact h8.new
              · exact h8
            exact ⟨HHS7.out.new hn8, HEL7.out.keeps hn8.keeps (by decide) (by decide), hb7.trans (hn8.below (Nat.le_trans hb hb7.size))⟩
          have HFIN := Lib.hid hfinal
          have hinc : ∀ w8, New w7 w8 → Calls Try.prog 60 #[.pointer (some ⟨(entAt s.ents j).zb, 0, none⟩), .pointer (some ⟨(entAt s.ents i).zb, 0, none⟩)] w8 fun e w' => e = .returned (.bool (inclB (entAt s.ents j).zone (entAt s.ents i).zone)) ∧ ∃ n, w' = w8.drewN n := fun w8 hn8 =>
            includes_any _ _ _ _ w8 ((HHS7.out.new hn8).zone j hjl) ((HHS7.out.new hn8).zone i hlt)
          have HINC := Lib.hid hinc
          have hgo := gone_at w7 i HHS7.out hlt
          have HGO := Lib.hid hgo
          clear hfinal hinc hgo
          -- the second test and what comes behind it, from any world
          go_upto_region 16 with fail
          go_cut [75] (fun c75 w8 => c75 = .bool false ∧ New w7 w8)
          case first =>
            by_cases hji : j = i
            · have hjib : ((j : Int) == (i : Int)) = true := by simp [hji]
              clear HAPJ HINC HGO HFIN HSUCC
              go_wp2_with fail
              go_meet
              case rel => exact ⟨rfl, New.refl _⟩
            · have hjib : ((j : Int) == (i : Int)) = false := by simp; omega
              cases hg : (entAt s.ents i).gone with
              | true =>
                rw [hg] at HGO
                clear HAPJ HINC HFIN HSUCC
                go_wp2_with fail
                refine HGO.out.mono ?_
                rintro e w8 ⟨rfl, hn8⟩
                go_wp2_with fail
                go_meet
                case rel => exact ⟨rfl, hn8⟩
              | false =>
                rw [hg] at HGO
                have hno := HAPJ.out hji hg
                clear HAPJ HFIN HSUCC
                go_wp2_with fail
                refine HGO.out.mono ?_
                rintro e w8 ⟨rfl, hn8⟩
                have hi8 := HINC.out w8 hn8
                rw [hno] at hi8
                have HI8 := Lib.hid hi8
                clear hi8 hno HINC
                go_wp2_with fail
                refine HI8.out.mono ?_
                rintro e w10 ⟨rfl, n8, rfl⟩
                go_wp2_with fail
                go_meet
                case rel => exact ⟨rfl, hn8.drewN n8⟩
          case rest =>
          obtain ⟨rfl, hn8⟩ := hcut
          clear HGO HAPJ
          cases bin with
          | true =>
            obtain ⟨f1, f2, f3⟩ := HFIN.out wc (.inr hn8)
            have hs2 : anyIn s i L (k + 1) = true := by rw [HSUCC.out]; rfl
            have HS2 := Lib.hid hs2
            clear hs2 HSUCC HFIN HINC HHS7 HEL7
            go_wp2_with fail
            exact ⟨⟨k + 1, by omega, by go_num, by rw [HS2.out], f1, f2, f3⟩, by simp [intOf]; omega⟩
          | false =>
            have hi9 := HINC.out wc hn8
            have HI9 := Lib.hid hi9
            have hs2 : anyIn s i L (k + 1) = inclB (entAt s.ents j).zone (entAt s.ents i).zone := by rw [HSUCC.out]; rfl
            have HS2 := Lib.hid hs2
            clear hs2 hi9 HSUCC HINC HHS7 HEL7
            generalize inclB (entAt s.ents j).zone (entAt s.ents i).zone = q at *
            go_wp2_with fail
            refine HI9.out.mono ?_
            rintro e w9 ⟨rfl, n9, rfl⟩
            obtain ⟨f1, f2, f3⟩ := HFIN.out (wc.drewN n9) (.inr (hn8.drewN n9))
            go_wp2_with fail
            exact ⟨⟨k + 1, by omega, by go_num, by rw [HS2.out], f1, f2, f3⟩, by simp [intOf]; omega⟩
        · have : k = L.length := by omega
          subst this
          rw [HCOV.out]
          go_wp2_with fail
          exact ⟨⟨i + 1, by omega, by go_num, hs, hbl⟩, by simp [intOf]; omega⟩
    · have : i = s.ents.length := by omega
      subst this
      go_wp2_with fail
      go_ret
      exact ⟨rfl, hbl⟩
end Go.Proofs.Ytapfihlgemejiaa
