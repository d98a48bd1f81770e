/- Walks over package gnomonlaw16: PassedOnce. -/
import Derived.Test.YtapfihlgemejiaaS14
import Derived.Test.YtapfihlgemejiaaA5
namespace Go.Proofs.Ytapfihlgemejiaa
open Go.RowKit

theorem StoreAt.tk_le {base : Nat} {w : World} {ps : Nat} {s : Sto} (h : StoreAt base w ps s) : 0 ≤ s.tk ∧ s.tk ≤ 4096 := by
  obtain ⟨_, _, _, _, h⟩ := h
  have h1 := h.ok.tk_le
  have h2 := h.ok.few
  omega
theorem takeS_taken {s : Sto} {i : Nat} (hi : i < s.ents.length) : (entAt (takeS s i).ents i).taken = s.tk := by
  unfold takeS
  simp only
  rw [entAt_modify _ _ _ _ hi, if_pos rfl]; rfl
theorem cell_kept {w : World} {A : Option Addr} {b off : Nat} {l : List Nat} (h : ElemsT w 3 A (nats l)) (e : A = some ⟨b, off, none⟩) (k : Nat) (hk : k < l.length) : b < w.heap.size ∧ w.cell? ⟨b, off + k, none⟩ = some (.int .i64 (l.getD k 0 : Nat)) := by
  obtain ⟨b', off', e', hb, hc⟩ := ElemsT.nats (l := l) h k hk
  rw [e] at e'
  cases e'
  exact ⟨hb, hc⟩

set_option maxRecDepth 100000 in
set_option maxHeartbeats 4000000 in
theorem passedOnce_any (last : Bool) (A : Option Addr) (c : Nat) (l : List Stp) (w : World) (hl : StpsAt w w.heap.size A l) :
    Calls Try.prog 5 #[.bool last, .slice A l.length c] w fun e w' => e = .returned (.bool true) ∧ Below w.heap.size w w' := by
  have HL := Lib.hid hl
  clear hl
  obtain ⟨base, hbase⟩ : ∃ b, b = w.heap.size := ⟨_, rfl⟩
  rw [← hbase] at HL ⊢
  have hb : base ≤ w.heap.size := by omega
  clear hbase
  go_enter Try.func5, Try.ntmps5
  go_wp2_with fail
  refine (live16_any w).mono ?_
  rintro e w1 ⟨rfl, hn⟩
  have hB := hn.below hb
  have hrun := run16_any base last A c l w1 (HL.out.below hB) (Nat.le_trans hb hB.size)
  have HRUN := Lib.hid hrun
  clear hn hrun HL
  go_wp2_with fail
  refine HRUN.out.mono ?_
  rintro e w2 ⟨ps, s, rfl, hst, hr, hB2⟩
  have hB3 := hB.trans hB2
  have htk := tk_ran hr
  have HTK := Lib.hid htk
  have hwa := waiting_any w2 hst
  have HWA := Lib.hid hwa
  have hfew := hst.few
  have HST := Lib.hid hst
  clear HRUN hr hB hB2 htk hwa hst
  go_wp2_with fail
  refine HWA.out.mono ?_
  rintro e w3 ⟨Aw, cw, rfl, how, hn⟩
  have hs3 := HST.out.new hn
  have hb3 := hB3.trans (hn.below (Nat.le_trans hb hB3.size))
  have hel3 := elemsT_of_own how
  have hwle := waitS_le s
  clear HWA HST hB3 hn how
  go_wp2_with fail
  -- the greatest number
  go_loopw [8, 7] (fun ci cm wr => ∃ i : Nat, i ≤ s.ents.length ∧ ci = .int .i64 i ∧ cm = .int .i64 (mostS s i) ∧ StoreAt base wr ps s ∧ ElemsT wr 3 Aw (nats (waitS s)) ∧ Below base w wr)
    (fun cn _ _ => s.ents.length - (intOf cn).toNat)
  case atStart => exact ⟨0, by omega, rfl, rfl, hs3, hel3, hb3⟩
  case round =>
    obtain ⟨i, hi, rfl, rfl, hs, hel, hbl⟩ := hrel
    clear hs3 hb3 hel3
    have hln := len_any wr hs
    have HLN := Lib.hid hln
    clear hln
    by_cases hlt : i < s.ents.length
    · have hii : (i : Int) < s.ents.length := by omega
      have hta := taken_at wr i hs hlt
      have HTA := Lib.hid hta
      have hta2 : ∀ w', New wr w' → Calls Try.prog 29 #[.pointer (some ⟨ps, 0, none⟩), .int .i64 i] w' fun x w'' => x = .returned (.int .i64 (entAt s.ents i).taken) ∧ New w' w'' := fun w' hn => taken_at w' i (hs.new hn) hlt
      have HTA2 := Lib.hid hta2
      have hall : ∀ w', New wr w' → StoreAt base w' ps s ∧ ElemsT w' 3 Aw (nats (waitS s)) ∧ Below base w w' := fun w' hn => ⟨hs.new hn, hel.keeps hn.keeps (by decide) (by decide), hbl.trans (hn.below (Nat.le_trans hb hbl.size))⟩
      have HALL := Lib.hid hall
      have hsu : mostS s (i + 1) = if mostS s i < (entAt s.ents i).taken then (entAt s.ents i).taken else mostS s i := rfl
      have HSU := Lib.hid hsu
      clear hta hta2 hall hs hel hsu
      generalize (entAt s.ents i).taken = t at *
      generalize mostS s i = m at *
      go_wp2_with fail
      refine HLN.out.mono ?_
      rintro e w4 ⟨rfl, rfl⟩
      go_wp2_with fail
      refine HTA.out.mono ?_
      rintro e w5 ⟨rfl, hn⟩
      by_cases hgt : m < t
      · have h2 := HTA2.out w5 hn
        have H2 := Lib.hid h2
        clear h2 HTA2
        rw [if_pos hgt] at HSU
        go_wp2_with fail
        refine H2.out.mono ?_
        rintro e w6 ⟨rfl, hn6⟩
        obtain ⟨a1, a2, a3⟩ := HALL.out w6 (hn.trans hn6)
        go_wp2_with fail
        exact ⟨⟨i + 1, by omega, by go_num, by rw [HSU.out], a1, a2, a3⟩, by simp [intOf]; omega⟩
      · rw [if_neg hgt] at HSU
        obtain ⟨a1, a2, a3⟩ := HALL.out w5 hn
        clear HTA2
        go_wp2_with fail
        exact ⟨⟨i + 1, by omega, by go_num, by rw [HSU.out], a1, a2, a3⟩, by simp [intOf]; omega⟩
    · have : i = s.ents.length := by omega
      subst this
      rw [mostS_all HTK.out]
      go_wp2_with fail
      refine HLN.out.mono ?_
      rintro e w4 ⟨rfl, rfl⟩
      clear HLN
      go_wp2_with fail
      -- each that waits is taken
      go_loopw [9, 7] (fun ci cm wr => ∃ i : Nat, i ≤ (waitS s).length ∧ ci = .int .i64 i ∧ ∃ s' : Sto, ∃ m : Int, cm = .int .i64 m ∧ s'.tk = m + 1 ∧ StoreAt base wr ps s' ∧ Tk s' ∧ waitS s' = (waitS s).drop i ∧ ElemsT wr 3 Aw (nats (waitS s)) ∧ Below base w wr)
        (fun cn _ _ => (waitS s).length - (intOf cn).toNat)
      case atStart => exact ⟨0, by omega, rfl, s, s.tk - 1, rfl, by omega, hs, HTK.out, rfl, hel, hbl⟩
      case round =>
        obtain ⟨i, hi, rfl, s', m, rfl, hm, hs, htk, hws, hel, hbl⟩ := hrel
        by_cases hlt : i < (waitS s).length
        · have hii : (i : Int) < (waitS s).length := by omega
          rw [drop_getD hlt] at hws
          obtain ⟨ob, off, hAw, _, _⟩ := ElemsT.nats (l := waitS s) hel i hlt
          subst hAw
          obtain ⟨hjl, hjw⟩ := waitS_head hws
          obtain ⟨hjt, hjg⟩ := waits_taken htk hjl hjw
          have hnext := waitS_next htk.pos hws
          have htk2 := tk_take htk hjl
          have htt := takeS_taken (s := s') hjl
          rw [hm] at htt
          have htm : (takeS s' ((waitS s).getD i 0)).tk = m + 1 + 1 := by
            show s'.tk + 1 = _
            omega
          have hmr := hs.tk_le
          have hm1 : -1 ≤ m := by omega
          have hm2 : m ≤ 4096 := by omega
          obtain ⟨hob, hcell⟩ := cell_kept hel rfl i hlt
          have htak := taken_at wr _ hs hjl
          rw [hjt] at htak
          have HT := Lib.hid htak
          have HS := Lib.hid hs
          have HE := Lib.hid hel
          have HWS := Lib.hid hws
          have HNX := Lib.hid hnext
          have HTT := Lib.hid htt
          have HTM := Lib.hid htm
          have HTK2 := Lib.hid htk2
          clear htak hs hel hws hnext htt htm htk2 htk hmr hm hjt hjw
          have hcg : ∀ w', StoreAt base w' ps s' → Calls Try.prog 30 #[.pointer (some ⟨ps, 0, none⟩), .int .i64 ((waitS s).getD i 0 : Nat)] w' fun x w'' => x = .returned (.bool false) ∧ New w' w'' := fun w' h' => by
            have := gone_at w' _ h' hjl
            rwa [hjg] at this
          have HCG := Lib.hid hcg
          have hck : ∀ w', ElemsT w' 3 (some ⟨ob, off, none⟩) (nats (waitS s)) → ob < w'.heap.size ∧ w'.cell? ⟨ob, off + i, none⟩ = some (.int .i64 ((waitS s).getD i 0 : Nat)) := fun w' h' => cell_kept h' rfl i hlt
          have HCK := Lib.hid hck
          clear hcg hck hjg
          generalize hgj : (waitS s).getD i 0 = j at *
          clear hgj
          go_wp2_with fail
          refine HT.out.mono ?_
          rintro e w4 ⟨rfl, hn4⟩
          have hs4 := HS.out.new hn4
          have he4 := HE.out.keeps hn4.keeps (by decide) (by decide)
          have hb4 := hbl.trans (hn4.below (Nat.le_trans hb hbl.size))
          obtain ⟨hob4, hcell4⟩ := HCK.out w4 he4
          have hg4 := HCG.out w4 hs4
          have HG4 := Lib.hid hg4
          have HS4 := Lib.hid hs4
          have HE4 := Lib.hid he4
          clear HT HS HE hn4 hbl hob hcell hs4 he4 hg4 HCG
          go_wp2_with fail
          refine HG4.out.mono ?_
          rintro e w5 ⟨rfl, hn5⟩
          have hs5 := HS4.out.new hn5
          have he5 := HE4.out.keeps hn5.keeps (by decide) (by decide)
          have hb5 := hb4.trans (hn5.below (Nat.le_trans hb hb4.size))
          have htake := take_some w5 hs5 (Nat.le_trans hb hb5.size) HWS.out
          have HTAKE := Lib.hid htake
          have HE5 := Lib.hid he5
          clear HG4 HS4 HE4 hn5 hb4 hob4 hcell4 hs5 he5 htake HWS
          go_wp2_with fail
          refine HTAKE.out.mono ?_
          rintro e w6 ⟨rfl, hs6, hk6, hbl6⟩
          have he6 := HE5.out.keeps hk6 (by decide) (by decide)
          have hb6 := hb5.trans hbl6
          obtain ⟨hob6, hcell6⟩ := HCK.out w6 he6
          have ht6 := taken_at w6 j hs6 (by rw [takeS_length]; exact hjl)
          rw [HTT.out] at ht6
          have HT6 := Lib.hid ht6
          have HS6 := Lib.hid hs6
          have HE6 := Lib.hid he6
          clear HTAKE HE5 hk6 hbl6 hb5 ht6 hs6 he6 HTT HCK
          have hjj : ((j : Int) == (j : Int)) = true := by simp
          go_wp2_with fail
          refine HT6.out.mono ?_
          rintro e w7 ⟨rfl, hn7⟩
          have hs7 := HS6.out.new hn7
          have he7 := HE6.out.keeps hn7.keeps (by decide) (by decide)
          have hb7 := hb6.trans (hn7.below (Nat.le_trans hb hb6.size))
          go_wp2_with fail
          exact ⟨⟨i + 1, by omega, by go_num, _, m + 1, by go_num, HTM.out, hs7, HTK2.out, HNX.out, he7, hb7⟩, by simp [intOf]; omega⟩
        · have : i = (waitS s).length := by omega
          subst this
          rw [List.drop_length] at hws
          have hnw := fun i hi => waitS_none hws i hi
          have HNW := Lib.hid hnw
          have hke := htk.each
          have HKE := Lib.hid hke
          have htn := take_none wr hs hws
          have HTN := Lib.hid htn
          have hwn : ∀ w', StoreAt base w' ps s' → Calls Try.prog 28 #[.pointer (some ⟨ps, 0, none⟩)] w' fun e w'' => ∃ A c, e = .returned (.slice A 0 c) ∧ New w' w'' := fun w' h' => (waiting_any w' h').mono fun e w'' ⟨A, c, h1, _, h3⟩ => by
            rw [hws] at h1
            exact ⟨A, c, h1, h3⟩
          have HWN := Lib.hid hwn
          have HS := Lib.hid hs
          have hfew' := hs.few
          clear hnw hke htn hwn hs hws htk hel HTK
          go_wp2_with fail
          refine HTN.out.mono ?_
          rintro e w4 ⟨rfl, hn4⟩
          have hs4 := HS.out.new hn4
          have hb4 := hbl.trans (hn4.below (Nat.le_trans hb hbl.size))
          have hw4 := HWN.out w4 hs4
          have HW4 := Lib.hid hw4
          have HS4 := Lib.hid hs4
          clear HTN HS hn4 hbl hw4 hs4 HWN
          go_wp2_with fail
          refine HW4.out.mono ?_
          rintro e w5 ⟨A5, c5, rfl, hn5⟩
          have hs5 := HS4.out.new hn5
          have hb5 := hb4.trans (hn5.below (Nat.le_trans hb hb4.size))
          clear HW4 HS4 hn5 hb4
          go_wp2_with fail
          go_loopw [14] (fun ci wr => ∃ i : Nat, i ≤ s'.ents.length ∧ ci = .int .i64 i ∧ StoreAt base wr ps s' ∧ Below base w wr)
            (fun cn _ => s'.ents.length - (intOf cn).toNat)
          case atStart => exact ⟨0, by omega, rfl, hs5, hb5⟩
          case round =>
            obtain ⟨k, hk, rfl, hs, hbl⟩ := hrel
            clear hs5 hb5
            have hln := len_any wr hs
            have HLN := Lib.hid hln
            clear hln
            by_cases hlt : k < s'.ents.length
            · have hii : (k : Int) < s'.ents.length := by omega
              have hta := taken_at wr k hs hlt
              have HTA := Lib.hid hta
              have hgo : ∀ w', New wr w' → Calls Try.prog 30 #[.pointer (some ⟨ps, 0, none⟩), .int .i64 k] w' fun x w'' => x = .returned (.bool (entAt s'.ents k).gone) ∧ New w' w'' := fun w' hn => gone_at w' k (hs.new hn) hlt
              have HGO := Lib.hid hgo
              have hall : ∀ w', New wr w' → StoreAt base w' ps s' ∧ Below base w w' := fun w' hn => ⟨hs.new hn, hbl.trans (hn.below (Nat.le_trans hb hbl.size))⟩
              have HALL := Lib.hid hall
              have hno : (entAt s'.ents k).taken < 0 → (entAt s'.ents k).gone = true := fun h => by
                have h1 := HNW.out k hlt
                unfold waitsB at h1
                cases hg : (entAt s'.ents k).gone with
                | true => rfl
                | false => rw [hg] at h1; simp at h1; omega
              have HNO := Lib.hid hno
              clear hta hgo hall hno hs
              by_cases hneg : (entAt s'.ents k).taken < 0
              · have hg := HNO.out hneg
                rw [hg] at HGO
                generalize (entAt s'.ents k).taken = t at *
                clear HNO hg HKE HNW
                go_wp2_with fail
                refine HLN.out.mono ?_
                rintro e w4 ⟨rfl, rfl⟩
                go_wp2_with fail
                refine HTA.out.mono ?_
                rintro e w6 ⟨rfl, hn6⟩
                have h6 := HGO.out w6 hn6
                have H6 := Lib.hid h6
                clear h6 HGO
                go_wp2_with fail
                refine H6.out.mono ?_
                rintro e w7 ⟨rfl, hn7⟩
                obtain ⟨a1, a2⟩ := HALL.out w7 (hn6.trans hn7)
                go_wp2_with fail
                exact ⟨⟨k + 1, by omega, by go_num, a1, a2⟩, by simp [intOf]; omega⟩
              · generalize (entAt s'.ents k).taken = t at *
                clear HNO HKE HNW HGO
                go_wp2_with fail
                refine HLN.out.mono ?_
                rintro e w4 ⟨rfl, rfl⟩
                go_wp2_with fail
                refine HTA.out.mono ?_
                rintro e w6 ⟨rfl, hn6⟩
                obtain ⟨a1, a2⟩ := HALL.out w6 hn6
                go_wp2_with fail
                exact ⟨⟨k + 1, by omega, by go_num, a1, a2⟩, by simp [intOf]; omega⟩
            · have : k = s'.ents.length := by omega
              subst this
              go_wp2_with fail
              refine HLN.out.mono ?_
              rintro e w4 ⟨rfl, rfl⟩
              go_wp2_with fail
              go_ret
              exact ⟨rfl, hbl⟩
end Go.Proofs.Ytapfihlgemejiaa
