/- Walks over package gnomonlaw16: run. -/
import Derived.Test.YtapfihlgemejiaaS8
namespace Go.Proofs.Ytapfihlgemejiaa
open Go.RowKit

/-- A step as it lies in memory. -/
structure StpAt (w : World) (B : Nat) (b o : Nat) (x : Stp) : Prop where
  kind : w.cell? ⟨b, o, none⟩ = some (.int .i64 x.kind)
  key : ∃ A c, w.cell? ⟨b, o + 1, none⟩ = some (.slice A x.key.length c) ∧ Elems w B A (x.key.map (Value.int .u8))
  num : w.cell? ⟨b, o + 2, none⟩ = some (.int .i64 x.n)
  cells : ∃ A c, w.cell? ⟨b, o + 3, none⟩ = some (.slice A x.cells.length c) ∧ Elems w B A (x.cells.map (Value.int .i32))
  bytes : Bytes x.key
  len : x.key.length ≤ 140737488355328
/-- A key that came in. -/
def KeyAt (w : World) (B : Nat) (A : Option Addr) (key : List Int) : Prop := Elems w B A (key.map (Value.int .u8)) ∧ Bytes key
def StpsAt (w : World) (B : Nat) (A : Option Addr) (l : List Stp) : Prop :=
  l.length ≤ 2199023255552 ∧ ∀ i x, l[i]? = some x → ∃ b o, A = some ⟨b, o, none⟩ ∧ b < B ∧ StpAt w B b (o + i * 4) x

theorem StpAt.below {w w' : World} {B b o : Nat} {x : Stp} (h : StpAt w B b o x) (hb : b < B) (hl : Below B w w') : StpAt w' B b o x := by
  have e : ∀ k, w'.cell? ⟨b, k, none⟩ = w.cell? ⟨b, k, none⟩ := fun k => by
    unfold World.cell?
    rw [hl.block b hb]
  obtain ⟨A, c, k1, k2⟩ := h.key
  obtain ⟨A', c', k3, k4⟩ := h.cells
  exact ⟨(e _).trans h.kind, ⟨A, c, (e _).trans k1, k2.below hl⟩, (e _).trans h.num, ⟨A', c', (e _).trans k3, k4.below hl⟩, h.bytes, h.len⟩
theorem StpsAt.below {w w' : World} {B : Nat} {A : Option Addr} {l : List Stp} (h : StpsAt w B A l) (hl : Below B w w') : StpsAt w' B A l :=
  ⟨h.1, fun i x hx => by
    obtain ⟨b, o, e, hb, hs⟩ := h.2 i x hx
    exact ⟨b, o, e, hb, hs.below hb hl⟩⟩

theorem ofZ_ok {n : Int} {cells Z : List Int} (h : ofZ n cells = .ok Z) : ∃ k : Nat, n = k ∧ k ≤ 8 ∧ Z.length = 81 := by
  unfold ofZ at h
  split at h
  · cases h
  · rename_i hf
    have hf : fewB n = true := by simpa using hf
    obtain ⟨h0, h8⟩ := fewB_true hf
    obtain ⟨k, rfl⟩ := Int.eq_ofNat_of_zero_le h0
    split at h
    · cases h
    · split at h
      · cases h
      · exact ⟨k, rfl, by omega, zoneOf_length _ _ _ h⟩

/-- What a step's zone is in memory: none, or a new one. -/
def StpZone (w w' : World) (x : Stp) (p : Option Addr) : Prop := match zoneS x with
  | none => p = none
  | some z => ∃ zb, p = some ⟨zb, 0, none⟩ ∧ w.heap.size ≤ zb ∧ ZoneAt w' zb z
theorem stpZone {w : World} (x : Stp) {A : Option Addr} {c : Nat} (hA : Elems w w.heap.size A (x.cells.map (Value.int .i32))) :
    Calls Try.prog 26 #[.int .i64 x.n, .slice A x.cells.length c] w fun e w' => ∃ p er, e = .returned (.tuple #[.pointer p, .int .i64 er]) ∧ StpZone w w' x p ∧ New w w' := by
  refine (of_any x.n A x.cells.length c x.cells w rfl hA).mono ?_
  rintro e w' ⟨hz, hn⟩
  cases hq : ofZ x.n x.cells with
  | err k =>
    rw [hq] at hz
    exact ⟨none, k, hz, by unfold StpZone; rw [zoneS_err hq], hn⟩
  | ok Z =>
    rw [hq] at hz
    obtain ⟨g, he, hg, hr⟩ := hz
    obtain ⟨k, hk, h8, hl⟩ := ofZ_ok hq
    refine ⟨some ⟨g, 0, none⟩, 0, he, ?_, hn⟩
    unfold StpZone
    rw [zoneS_ok hq]
    refine ⟨g, rfl, hg, ?_, hl, ?_⟩
    · rw [hk] at hr ⊢; exact hr
    · rw [hk]; simpa using h8

set_option maxRecDepth 100000 in
set_option maxHeartbeats 2000000 in
theorem run16_any (base : Nat) (last : Bool) (A : Option Addr) (c : Nat) (l : List Stp) (w : World) (hl : StpsAt w base A l) (hb : base ≤ w.heap.size) :
    Calls Try.prog 25 #[.bool last, .slice A l.length c] w fun e w' => ∃ ps s, e = .returned (.pointer (some ⟨ps, 0, none⟩)) ∧ StoreAt base w' ps s ∧ Ran last l s ∧ Below base w w' := by
  have HL := Lib.hid hl
  have hlen := hl.1
  clear hl
  go_enter Try.func25, Try.ntmps25
  go_wp2_with fail
  refine (new_any last base w hb).mono ?_
  rintro e w1 ⟨rfl, hst, hn⟩
  have hB := hn.below hb
  generalize w.heap.size + 1 = ps at *
  clear hn
  go_wp2_with fail
  go_loopw [6] (fun ci wr => ∃ i : Nat, i ≤ l.length ∧ ci = .int .i64 i ∧ ∃ s, StoreAt base wr ps s ∧ Ran last (l.take i) s ∧ Below base w wr)
    (fun cn _ => l.length - (intOf cn).toNat)
  case atStart => exact ⟨0, by omega, rfl, _, hst, Ran.nil, hB⟩
  case round =>
    obtain ⟨i, hi, rfl, s, hs, hr, hbl⟩ := hrel
    clear hst hB
    by_cases hlt : i < l.length
    · have hx : l[i]? = some l[i] := List.getElem?_eq_getElem hlt
      obtain ⟨b, o, rfl, hbb, hst⟩ := (HL.out.below hbl).2 i _ hx
      have htk : l.take (i + 1) = l.take i ++ [l[i]] := by rw [List.take_add_one, hx]; rfl
      have HTK := Lib.hid htk
      generalize l[i] = x at *
      obtain ⟨kA, kc, h1, hke⟩ := hst.key
      obtain ⟨cA, cc, h3, hce⟩ := hst.cells
      have h0 := hst.kind
      have h2 := hst.num
      have hsz : base ≤ wr.heap.size := Nat.le_trans hb hbl.size
      have hblt : b < wr.heap.size := Nat.lt_of_lt_of_le hbb hsz
      have hii : (i : Int) < l.length := by omega
      have hz := stpZone (w := wr.drew) x (c := cc) ((hce.below (Below.refl base wr).drew).mono (by show base ≤ wr.heap.size; omega))
      have HZ := Lib.hid hz
      have HS := Lib.hid hs
      have HR := Lib.hid hr
      have HX := Lib.hid hst
      clear hx htk hce hke hz hs hr hst
      go_wp2_with fail
      go_cut [7] (fun c7 w2 => ∃ p, c7 = .pointer p ∧ StpZone wr.drew w2 x p ∧ New wr.drew w2)
      case first =>
        go_region_law (go_simp; go_at_call 26; refine HZ.out.mono ?_; rintro e w2 ⟨p, er, rfl, hp, hn2⟩)
        all_goals
          go_wp2
          go_meet
          case rel => exact ⟨p, rfl, hp, hn2⟩
      case rest =>
      obtain ⟨p, rfl, hp, hn2⟩ := hcut
      have hn3 : New wr wc := (New.refl wr).drew.trans hn2
      have hb2 := hbl.trans (hn3.below hsz)
      have hs2 := HS.out.new hn3
      have hx2 := HX.out.below hbb (hn3.below hsz)
      clear h0 h1 h2 h3 HZ HX HS hn2 hn3 hbl hsz hblt
      have hsz : base ≤ wc.heap.size := Nat.le_trans hb hb2.size
      have hblt : b < wc.heap.size := Nat.lt_of_lt_of_le hbb hsz
      by_cases hk0 : x.kind = 0
      · have hk1 : x.kind ≠ 1 := by omega
        have hk1b : (x.kind == 1) = false := by simpa using hk1
        have h0 := hx2.kind
        rw [hk0] at h0
        obtain ⟨kA', kc', h1, hke⟩ := hx2.key
        cases hz : zoneS x with
        | none =>
          unfold StpZone at hp
          rw [hz] at hp
          subst hp
          have hR2 := Lib.hid (Ran.snoc HR.out (Did.none (x := x) (.inr hz) (.inl hk1)))
          clear hx2 hke HR hk0 hk1 hz
          go_wp2_with fail
          refine (put_nil_zone _ _ wc).mono ?_
          rintro e w3 ⟨rfl, rfl⟩
          go_wp2_with fail
          exact ⟨⟨i + 1, by omega, by go_num, s, hs2, by rw [HTK.out]; exact hR2.out, hb2⟩, by simp [intOf]; omega⟩
        | some z =>
          unfold StpZone at hp
          rw [hz] at hp
          obtain ⟨zb, rfl, _, hzz⟩ := hp
          by_cases hc : 0 ≤ coversS s.ents x.key z
          · have hput := put_covered wc hs2 kA' kc' x.key (hke.mono hsz) hx2.bytes zb z hzz hc
            have HP := Lib.hid hput
            have HX2 := Lib.hid hx2
            have hR2 := Lib.hid (Ran.snoc HR.out (Did.covered z hk0 hz hc))
            generalize coversS s.ents x.key z = cv at *
            clear hx2 hke HR hk0 hk1 hz hput hc
            go_wp2_with fail
            refine HP.out.mono ?_
            rintro e w3 ⟨rfl, hd⟩
            have hst3 := hs2.drew hd
            have hb3 := hb2.trans (hd.new.below hsz)
            have hx3 := (HX2.out.below hbb (hd.new.below hsz)).kind
            have hsz3 : b < w3.heap.size := Nat.lt_of_lt_of_le hblt hd.new.size
            clear hs2 hb2 HP h0 h1 hd HX2
            go_wp2_with fail
            exact ⟨⟨i + 1, by omega, by go_num, s, hst3, by rw [HTK.out]; exact hR2.out, hb3⟩, by simp [intOf]; omega⟩
          · have hc : coversS s.ents x.key z < 0 := by omega
            by_cases hfull : 4096 ≤ s.ents.length
            · have hput := put_full wc hs2 kA' kc' x.key (hke.mono hsz) hx2.bytes zb z hzz hc hfull
              have HP := Lib.hid hput
              have HX2 := Lib.hid hx2
              have hR2 := Lib.hid (Ran.snoc HR.out (Did.full z hk0 hz hc hfull))
              clear hx2 hke HR hk0 hk1 hz hput hc hfull
              go_wp2_with fail
              refine HP.out.mono ?_
              rintro e w3 ⟨rfl, hd⟩
              have hst3 := hs2.drew hd
              have hb3 := hb2.trans (hd.new.below hsz)
              have hx3 := (HX2.out.below hbb (hd.new.below hsz)).kind
              have hsz3 : b < w3.heap.size := Nat.lt_of_lt_of_le hblt hd.new.size
              clear hs2 hb2 HP h0 h1 hd HX2
              go_wp2_with fail
              exact ⟨⟨i + 1, by omega, by go_num, s, hst3, by rw [HTK.out]; exact hR2.out, hb3⟩, by simp [intOf]; omega⟩
            · have hput := put_store wc hs2 kA' kc' x.key (Held.of_below hke hsz) hx2.bytes hx2.len zb z hzz hsz hc (by omega)
              have HP := Lib.hid hput
              have HX2 := Lib.hid hx2
              have hR2 := Lib.hid (fun ka kc => Ran.snoc HR.out (Did.put z hk0 hz hc (by omega) ka kc zb))
              clear hx2 hke HR hk0 hk1 hz hput hc hfull
              go_wp2_with fail
              refine HP.out.mono ?_
              rintro e w3 ⟨vd, ka, kc2, rfl, _, hst3, _, hbl3⟩
              have hb3 := hb2.trans hbl3
              have hx3 := (HX2.out.below hbb hbl3).kind
              have hsz3 : b < w3.heap.size := Nat.lt_of_lt_of_le hblt hbl3.size
              clear hs2 hb2 HP h0 h1 hbl3 HX2
              go_wp2_with fail
              exact ⟨⟨i + 1, by omega, by go_num, _, hst3, by rw [HTK.out]; exact hR2.out ka kc2, hb3⟩, by simp [intOf]; omega⟩
      · have hk0b : (x.kind == 0) = false := by simpa using hk0
        have h0 := hx2.kind
        by_cases hk1 : x.kind = 1
        · rw [hk1] at h0 hk0b
          cases hw : waitS s with
          | nil =>
            have htn := take_none wc hs2 hw
            have HT := Lib.hid htn
            have hR2 := Lib.hid (Ran.snoc HR.out (Did.none (x := x) (.inl hk0) (.inr hw)))
            clear hx2 HR hk0 hk1 htn hw
            go_wp2_with fail
            refine HT.out.mono ?_
            rintro e w3 ⟨rfl, hn⟩
            have hst3 := hs2.new hn
            have hb3 := hb2.trans (hn.below hsz)
            clear hs2 hb2 HT h0 hn
            go_wp2_with fail
            exact ⟨⟨i + 1, by omega, by go_num, s, hst3, by rw [HTK.out]; exact hR2.out, hb3⟩, by simp [intOf]; omega⟩
          | cons a r =>
            have htn := take_some wc hs2 hsz hw
            have HT := Lib.hid htn
            have hR2 := Lib.hid (Ran.snoc HR.out (Did.take (x := x) a r hk1 hw))
            clear hx2 HR hk0 hk1 htn hw
            go_wp2_with fail
            refine HT.out.mono ?_
            rintro e w3 ⟨rfl, hst3, _, hbl3⟩
            have hb3 := hb2.trans hbl3
            clear hs2 hb2 HT h0 hbl3
            go_wp2_with fail
            exact ⟨⟨i + 1, by omega, by go_num, _, hst3, by rw [HTK.out]; exact hR2.out, hb3⟩, by simp [intOf]; omega⟩
        · have hk1b : (x.kind == 1) = false := by simpa using hk1
          have hR2 := Lib.hid (Ran.snoc HR.out (Did.none (x := x) (.inl hk0) (.inl hk1)))
          clear hx2 hk0 hk1 HR
          go_wp2_with fail
          exact ⟨⟨i + 1, by omega, by go_num, s, hs2, by rw [HTK.out]; exact hR2.out, hb2⟩, by simp [intOf]; omega⟩
    · have : i = l.length := by omega
      subst this
      rw [List.take_length] at hr
      go_wp2_with fail
      go_ret
      exact ⟨ps, s, rfl, hs, hr, hbl⟩
end Go.Proofs.Ytapfihlgemejiaa
