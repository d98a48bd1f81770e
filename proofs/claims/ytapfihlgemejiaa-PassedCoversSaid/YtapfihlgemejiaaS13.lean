/- Walks over package gnomonlaw16: PassedCovers. -/
import Derived.Test.YtapfihlgemejiaaS12
import Derived.Test.YtapfihlgemejiaaS9
namespace Go.Proofs.Ytapfihlgemejiaa
open Go.RowKit

set_option maxRecDepth 100000 in
set_option maxHeartbeats 2000000 in
theorem passedCovers_any (last : Bool) (A : Option Addr) (c : Nat) (l : List Stp) (w : World) (hl : StpsAt w w.heap.size A l) :
    Calls Try.prog 4 #[.bool last, .slice A l.length c] w fun e w' => e = .returned (.bool true) ∧ Below w.heap.size w w' := by
  have HL := Lib.hid hl
  have hlen := hl.1
  clear hl
  obtain ⟨base, hbase⟩ : ∃ b, b = w.heap.size := ⟨_, rfl⟩
  rw [← hbase] at HL ⊢
  have hb : base ≤ w.heap.size := by omega
  clear hbase
  go_enter Try.func4, Try.ntmps4
  go_wp2_with fail
  refine (live16_any w).mono ?_
  rintro e w1 ⟨rfl, hn⟩
  have hB := hn.below hb
  have hrun := run16_any base last A c l w1 (HL.out.below hB) (Nat.le_trans hb hB.size)
  have HRUN := Lib.hid hrun
  clear hn hrun
  go_wp2_with fail
  refine HRUN.out.mono ?_
  rintro e w2 ⟨ps, s, rfl, hst, hr, hB2⟩
  have hcov := fun (hl4 : s.ents.length < 4096) x (hx : x ∈ l) (hk : x.kind = 0) z (hz : zoneS x = some z) => cov_iff.1 (ran_covers hr hl4 x hx hk z hz)
  have HCOV := Lib.hid hcov
  have hB3 := hB.trans hB2
  clear HRUN hr hB hB2 hcov
  go_wp2_with fail
  go_loopw [6] (fun ci wr => ∃ i : Nat, i ≤ l.length ∧ ci = .int .i64 i ∧ StoreAt base wr ps s ∧ Below base w wr)
    (fun cn _ => l.length - (intOf cn).toNat)
  case atStart => exact ⟨0, by omega, rfl, hst, hB3⟩
  case round =>
    obtain ⟨i, hi, rfl, hs, hbl⟩ := hrel
    clear hst hB3
    by_cases hlt : i < l.length
    · have hx : l[i]? = some l[i] := List.getElem?_eq_getElem hlt
      have hmem : l[i] ∈ l := List.getElem_mem hlt
      obtain ⟨b, o, rfl, hbb, hst⟩ := (HL.out.below hbl).2 i _ hx
      have HC := Lib.hid (fun h1 => HCOV.out h1 l[i] hmem)
      clear HCOV hmem
      generalize l[i] = x at *
      obtain ⟨kA, kc, h1, hke⟩ := hst.key
      obtain ⟨cA, cc, h3, hce⟩ := hst.cells
      have h0 := hst.kind
      have h2 := hst.num
      have hsz : base ≤ wr.heap.size := Nat.le_trans hb hbl.size
      have hblt : b < wr.heap.size := Nat.lt_of_lt_of_le hbb hsz
      have hii : (i : Int) < l.length := by omega
      have hz := stpZone (w := wr.drew) x (c := cc) ((hce.below (Below.refl base wr).drew).mono (by show base ≤ wr.heap.size; omega))
      have HZ := Lib.hid hz
      have HS := Lib.hid hs
      have HX := Lib.hid hst
      clear hx hce hke hz hs hst
      go_wp2_with fail
      go_cut [7] (fun c7 w2 => ∃ p, c7 = .pointer p ∧ StpZone wr.drew w2 x p ∧ New wr.drew w2)
      case first =>
        go_region_law (go_simp; go_at_call 26; refine HZ.out.mono ?_; rintro e w2 ⟨p, er, rfl, hp, hn2⟩)
        all_goals
          go_wp2
          go_meet
          case rel => exact ⟨p, rfl, hp, hn2⟩
      case rest =>
      obtain ⟨p, rfl, hp, hn2⟩ := hcut
      have hn3 : New wr wc := (New.refl wr).drew.trans hn2
      have hb2 := hbl.trans (hn3.below hsz)
      have hs2 := HS.out.new hn3
      have hx2 := HX.out.below hbb (hn3.below hsz)
      clear h0 h1 h2 h3 HZ HX HS hn2 hn3 hbl hsz hblt
      have hsz : base ≤ wc.heap.size := Nat.le_trans hb hb2.size
      have hblt : b < wc.heap.size := Nat.lt_of_lt_of_le hbb hsz
      have h0 := hx2.kind
      by_cases hk0 : x.kind = 0
      · rw [hk0] at h0
        obtain ⟨kA', kc', h1, hke⟩ := hx2.key
        cases hz : zoneS x with
        | none =>
          unfold StpZone at hp
          rw [hz] at hp
          subst hp
          clear hx2 hke hk0 hz HC
          go_wp2_with fail
          exact ⟨⟨i + 1, by omega, by go_num, hs2, hb2⟩, by simp [intOf]; omega⟩
        | some z =>
          unfold StpZone at hp
          rw [hz] at hp
          obtain ⟨zb, rfl, _, hzz⟩ := hp
          have hln := len_any wc hs2
          have HLN := Lib.hid hln
          by_cases hfull : s.ents.length < 4096
          · have hpos := HC.out hfull hk0 z hz
            have hcv := covers_any wc hs2 kA' kc' x.key (hke.mono hsz) hx2.bytes zb z hzz
            have HCV := Lib.hid hcv
            have hfl : (s.ents.length : Int) < 4096 := by omega
            clear hx2 hke hk0 hz HC hln hcv
            generalize coversS s.ents x.key z = cv at *
            have hnn : ¬ cv < 0 := by omega
            go_wp2_with fail
            refine HLN.out.mono ?_
            rintro e w3 ⟨rfl, rfl⟩
            go_wp2_with fail
            refine HCV.out.mono ?_
            rintro e w3 ⟨rfl, hd⟩
            have hst3 := hs2.drew hd
            have hb3 := hb2.trans (hd.new.below hsz)
            clear hs2 hb2 HLN HCV h0 h1 hd
            go_wp2_with fail
            exact ⟨⟨i + 1, by omega, by go_num, hst3, hb3⟩, by simp [intOf]; omega⟩
          · have hfl : ¬ (s.ents.length : Int) < 4096 := by omega
            clear hx2 hke hk0 hz HC hln
            go_wp2_with fail
            refine HLN.out.mono ?_
            rintro e w3 ⟨rfl, rfl⟩
            go_wp2_with fail
            exact ⟨⟨i + 1, by omega, by go_num, hs2, hb2⟩, by simp [intOf]; omega⟩
      · have hk0b : (x.kind == 0) = false := by simpa using hk0
        clear hx2 hk0 HC
        go_wp2_with fail
        exact ⟨⟨i + 1, by omega, by go_num, hs2, hb2⟩, by simp [intOf]; omega⟩
    · have : i = l.length := by omega
      subst this
      go_wp2_with fail
      go_ret
      exact ⟨rfl, hbl⟩
end Go.Proofs.Ytapfihlgemejiaa
