/- Walks over package passed: Put. -/
import Derived.Test.YtapfihlgemejiaaVS3
import Derived.Deep.RegionHeld3
import Derived.Deep.AppendLies
import Derived.Deep.RegionLaw
namespace Go.Proofs.Ytapfihlgemejiaa
open Go.RowKit
/-- These cells stay readable while a store of this base is written. -/
def Held (base : Nat) (w : World) (A : Option Addr) (xs : List Value) : Prop := ∀ w', Keeps w w' → Below base w w' → Elems w' w'.heap.size A xs
theorem Held.at_ {base : Nat} {w : World} {A : Option Addr} {xs : List Value} (h : Held base w A xs) : Elems w w.heap.size A xs := h w (Keeps.refl w) (Below.refl _ _)
theorem Held.step {base : Nat} {w w' : World} {A : Option Addr} {xs : List Value} (h : Held base w A xs) (h1 : Keeps w w') (h2 : Below base w w') : Held base w' A xs :=
  fun w2 k1 k2 => h w2 (h1.trans k1) (h2.trans k2)
theorem Held.of_type {base : Nat} {w : World} {A : Option Addr} {xs : List Value} {t : TypeId} (h : ElemsT w t A xs) (h1 : t ≠ 141) (h2 : t ≠ 143) : Held base w A xs :=
  fun _ k1 _ => (h.keeps k1 h1 h2).elems

theorem firstIn_neg {l : List Ent} {z : Zn} {r : List Nat} (h : firstIn l z r < 0) : firstIn l z r = -1 := by
  induction r with
  | nil => rfl
  | cons i r ih =>
    unfold firstIn at h ⊢
    split
    · rename_i h1; rw [if_pos h1] at h; omega
    · rename_i h1; rw [if_neg h1] at h; exact ih h

theorem PutRel.start {base : Nat} {w w1 : World} {ps : Nat} {s : Sto} {A : Option Addr} {c pm : Nat} {ml : List (ByteArray × Value)} (h : StoreIn base w ps s A c pm ml) (hn : New w w1) (hb : base ≤ w.heap.size) :
    PutRel base w w1 ps s A c pm ml [] [] (.slice none 0 0) (.slice none 0 0) where
  row := hn.row h.row
  own := own_new h.own hn
  map := h.map.fr hn (fun e => e)
  keep := hn.keeps
  below := hn.below hb
  d := World.ownsRow_nil _ _ _ _
  k := World.ownsRow_nil _ _ _ _
  apart := fun g hg => by cases hg

/-- The cells of an entry, as the walk reads them while some are gone. -/
theorem PutRel.ent {base : Nat} {w wr : World} {ps : Nat} {s : Sto} {A : Option Addr} {c pm : Nat} {ml : List (ByteArray × Value)} {dl kl : List Nat} {vd vk : Value}
    (h : PutRel base w wr ps s A c pm ml dl kl vd vk) (hd : ∀ i ∈ dl, i < s.ents.length) (i : Nat) (hi : i < s.ents.length) :
    ∃ pe, A = some ⟨pe, 0, none⟩ ∧ base ≤ pe ∧ (∃ cur, wr.heap[pe]? = some (Obj.cells cur 143 (0, 0))) ∧ wr.cell? ⟨pe, i * 4 + 1, none⟩ = some (.pointer (some ⟨(entAt s.ents i).zb, 0, none⟩)) ∧
      (∃ b, wr.cell? ⟨pe, i * 4 + 3, none⟩ = some (.bool b)) ∧ ∀ k, wr.frozen? ⟨pe, k, none⟩ = false := by
  rcases h.own.2 with ⟨_, h0⟩ | ⟨pe, cap, cur, hv, hb, hg, _, _, _, ht⟩
  · omega
  · injection hv with hA _ _
    subst hA
    have hlen := dropAll_length s.ents dl
    have hc : ∀ k, k < 4 → wr.cell? ⟨pe, i * 4 + k, none⟩ = (entCells (entAt (dropAll s.ents dl) i))[k]? := fun k hk => by
      rw [cell_of_row wr pe _ cur 143 (0, 0) hg, ← entRow_get _ i (by omega) k hk, ← ht, List.getElem?_take, if_pos (by omega), Nat.mul_comm i 4]
      simp
    have hzb : (entAt (dropAll s.ents dl) i).zb = (entAt s.ents i).zb := by rw [entAt_dropAll _ _ hd]; split <;> rfl
    have h1 := hc 1 (by omega)
    rw [show (entCells (entAt (dropAll s.ents dl) i))[1]? = some (.pointer (some ⟨(entAt (dropAll s.ents dl) i).zb, 0, none⟩)) from rfl, hzb] at h1
    exact ⟨pe, rfl, hb, ⟨cur, hg⟩, h1, ⟨_, hc 3 (by omega)⟩, fun k => frozen_of_row wr pe k cur 143 hg⟩

theorem entCells_one (e : Ent) : ∀ u ∈ entCells e, u.oneCell' = true := by
  intro u hu
  simp only [entCells, List.mem_cons, List.not_mem_nil, or_false] at hu
  rcases hu with rfl | rfl | rfl | rfl <;> rfl

theorem own_addr2 {w : World} {base e size n : Nat} {A : Option Addr} {c : Nat} {xs : List Value} (h : w.ownsRow base e size (.slice A n c) n xs) : ∃ ka, A = addrOf ka ∧ ∀ b o, ka = some (b, o) → base ≤ b := by
  rcases h.2 with ⟨h1, _⟩ | ⟨g, cap, cur, hv, hb, _⟩
  · cases h1; exact ⟨none, rfl, fun b o e => by cases e⟩
  · cases hv; exact ⟨some (g, 0), rfl, fun b o e => by cases e; exact hb⟩
set_option maxRecDepth 100000 in
set_option maxHeartbeats 1000000 in
/-- Put of what is new; the copy of the key lies in new memory. -/
theorem put_store2 {base : Nat} {ps : Nat} {s : Sto} (w : World) (h : StoreAt base w ps s) (A0 : Option Addr) (c0 : Nat) (key : List Int) (hk : Held base w A0 (key.map (Value.int .u8))) (hby : Bytes key) (hkl : key.length ≤ 140737488355328)
    (zb : Nat) (z : Zn) (hz : ZoneAt w zb z) (hb : base ≤ w.heap.size) (hneg : coversS s.ents key z < 0) (hfew : s.ents.length < 4096) :
    Calls Try.prog 21 #[.pointer (some ⟨ps, 0, none⟩), .slice A0 key.length c0, .pointer (some ⟨zb, 0, none⟩)] w fun e w' =>
      ∃ vd ka kc, e = .returned (.tuple #[.int .i64 s.ents.length, .bool false, vd, .int .i64 0]) ∧ w'.ownsRow w.heap.size 3 1 vd (dropped s.ents key z).length (nats (dropped s.ents key z)) ∧
        StoreAt base w' ps (putS s key z ka kc zb) ∧ Keeps w w' ∧ Below base w w' ∧ ∀ b o, ka = some (b, o) → w.heap.size ≤ b := by
  have hneg1 := firstIn_neg hneg
  have hcov := covers_any w h A0 c0 key hk.at_ hby zb z hz
  rw [show coversS s.ents key z = -1 from hneg1] at hcov
  have HCOV := Lib.hid hcov
  obtain ⟨A, c, pm, ml, h⟩ := h
  obtain ⟨A', c', hlk, hl⟩ := h.list key hby
  obtain ⟨_, h1, h2, _⟩ := h.cells
  have hcv : ∀ k, (convert 30 9 (.slice A0 key.length c0)).run Try.prog (w.drewN k) = .ok (.string (strOfNums key)) (w.drewN k) := fun k =>
    run_key (hk.at_.keep (w' := w.drewN k) fun b _ => rfl) c0
  have hlen := idxs_length_le s.ents key
  have hmem := fun k (hk : k < (idxs s.ents key).length) => idxs_get_lt k hk
  have HM := Lib.hid hmem
  have hml := fun i (hi : i ∈ idxs s.ents key) => idxs_lt hi
  have HML := Lib.hid hml
  have HI := Lib.hid h
  have HL := Lib.hid hl
  have HZ := Lib.hid hz
  have HK := Lib.hid hk
  have hdr : dropped s.ents key z = (idxs s.ents key).filter (fun i => inclB z (entAt s.ents i).zone) := rfl
  have hkr : keptOf s.ents key z = (idxs s.ents key).filter (fun i => !inclB z (entAt s.ents i).zone) := rfl
  have HDR := Lib.hid hdr
  have HKR := Lib.hid hkr
  clear hml h hl hz hk hcov hmem hneg hneg1 hdr hkr
  generalize hidx : idxs s.ents key = l at *
  clear hidx
  obtain ⟨i0, hi, hz0, hz1, hz2⟩ := info_parts infoOf3
  go_enter Try.func21, Try.ntmps21
  go_wp2_with fail
  refine HCOV.out.mono ?_
  rintro e w' ⟨rfl, n, rfl⟩
  have hsm : decide ((4096 : Int) ≤ s.ents.length) = false := by simp; omega
  go_wp2_with fail
  go_quiet (fail)
  go_wp2_with fail
  have hst := PutRel.start HI.out (((New.refl w).drewN n).drewN nq) hb
  have hll : l.length ≤ 4096 := by omega
  clear hlk hcv h1 h2 hsm
  generalize (w.drewN n).drewN nq = w1 at *
  go_loopw [41, 8, 11] (fun cn vd vk wr => ∃ k : Nat, k ≤ l.length ∧ cn = .int .i64 k ∧
      PutRel base w wr ps s A c pm ml ((l.take k).filter (fun i => inclB z (entAt s.ents i).zone)) ((l.take k).filter (fun i => !inclB z (entAt s.ents i).zone)) vd vk)
    (fun cn _ _ _ => l.length - (intOf cn).toNat)
  case atStart => exact ⟨0, by omega, rfl, hst⟩
  case round =>
    obtain ⟨k, hk, rfl, hr⟩ := hrel
    clear hst
    by_cases hlt : k < l.length
    · have hl1 := HL.out.keeps hr.keep (by decide) (by decide)
      obtain ⟨b, off, rfl, hbl, hc1⟩ := hl1.nats k hlt
      have hi2 := HM.out k hlt
      have hdl : ∀ i ∈ (l.take k).filter (fun i => inclB z (entAt s.ents i).zone), i < s.ents.length := fun i hi3 => HML.out i (List.mem_of_mem_take (List.mem_filter.1 hi3).1)
      have HDL := Lib.hid hdl
      obtain ⟨pe, rfl, hbp, hpe, hc2, ⟨b3, hc3⟩, hfr⟩ := hr.ent hdl _ hi2
      have h1 := hr.row.cell 1
      simp only [List.getElem?_cons_succ, List.getElem?_cons_zero] at h1
      have hze := (HI.out.entOk _ hi2).zone.keeps hr.keep
      have hinc := includes_any zb (entAt s.ents (l.getD k 0)).zb z (entAt s.ents (l.getD k 0)).zone wr (HZ.out.keeps hr.keep) hze
      have HINC := Lib.hid hinc
      have htk := take_succ_getD hlt
      have HTK := Lib.hid htk
      have HR := Lib.hid hr
      have HPE := Lib.hid hpe
      clear hinc hl1 htk hdl hze hr hpe
      generalize l.getD k 0 = i at *
      have hii : (i : Int) < s.ents.length := by omega
      go_wp2_with fail
      refine HINC.out.mono ?_
      rintro e w2 ⟨rfl, n2, rfl⟩
      have hr2 := HR.out.new ((New.refl wr).drewN n2) hb
      clear hc1 hc2 hc3 hfr h1 HR HPE HINC
      generalize wr.drewN n2 = w2 at *
      obtain ⟨pe2, hpe2, _, hpe3, _, ⟨b3, hc3⟩, hfr⟩ := hr2.ent HDL.out _ hi2
      obtain rfl : pe = pe2 := by simpa using hpe2
      clear hpe2
      have h1 := hr2.row.cell 1
      simp only [List.getElem?_cons_succ, List.getElem?_cons_zero] at h1
      have hf3 := hfr (i * 4 + 3)
      have HR := Lib.hid hr2
      have HPE := Lib.hid hpe3
      clear hr2 hpe3 hfr
      cases hq : inclB z (entAt s.ents i).zone with
      | true =>
        have hfd : (l.take (k + 1)).filter (fun i => inclB z (entAt s.ents i).zone) = (l.take k).filter (fun i => inclB z (entAt s.ents i).zone) ++ [i] := by
          rw [HTK.out, List.filter_append]; simp [hq]
        have hfk : (l.take (k + 1)).filter (fun i => !inclB z (entAt s.ents i).zone) = (l.take k).filter (fun i => !inclB z (entAt s.ents i).zone) := by
          rw [HTK.out, List.filter_append]; simp [hq]
        have HFD := Lib.hid hfd
        have HFK := Lib.hid hfk
        have hdlen : ((l.take k).filter (fun i => inclB z (entAt s.ents i).zone)).length ≤ 4096 := by
          have := List.length_filter_le (fun i => inclB z (entAt s.ents i).zone) (l.take k)
          have := List.length_take_le k l
          omega
        clear hfd hfk hq
        generalize (l.take k).filter (fun i => inclB z (entAt s.ents i).zone) = dl at *
        generalize (l.take k).filter (fun i => !inclB z (entAt s.ents i).zone) = kl at *
        obtain ⟨_, _, _, _, m5, m6, _⟩ := HR.out.mark hi2 hbp HPE.out
        have hown := own_new m6 ((New.refl _).alloc (.cells #[.int .i64 i] 3))
        have hel := elems_new (w2.setCell ⟨pe, i * 4 + 3, none⟩ (.bool true)) 3 (.int .i64 i)
        rw [World.size_setCell] at hel
        have hsz : w.heap.size ≤ w2.heap.size := HR.out.size
        have HOWN := Lib.hid hown
        have HEL := Lib.hid hel
        clear m5 m6 hown hel
        go_wp2_with (at_builtin; refine wpList_append_elems rfl _ _ 25 rfl w.heap.size 3 i0 (.int .i64 0) 1 8 Try.underlying25 hi hz0 hz1 hz2 rfl (by decide) _ _ _ rfl HOWN.out (w2.heap.size + 1) _ 1 1 [.int .i64 i] rfl HEL.out rfl (by simp [Value.oneCell']) ?c1 ?c2 ?c3 ?_)
        case c1 => unfold maxLen; omega
        case c2 => omega
        case c3 => simp; omega
        intro v' w' ho hg hloc
        have hrel := HR.out.drop hi2 hbp HPE.out hb _ ho hg (by simpa using hloc)
        rw [← HFD.out, ← HFK.out] at hrel
        clear ho hg hloc hc3 hf3 h1
        go_wp2
        exact ⟨⟨k + 1, by omega, by go_num, hrel⟩, by simp [intOf]; omega⟩
      | false =>
        have hfd : (l.take (k + 1)).filter (fun i => inclB z (entAt s.ents i).zone) = (l.take k).filter (fun i => inclB z (entAt s.ents i).zone) := by
          rw [HTK.out, List.filter_append]; simp [hq]
        have hfk : (l.take (k + 1)).filter (fun i => !inclB z (entAt s.ents i).zone) = (l.take k).filter (fun i => !inclB z (entAt s.ents i).zone) ++ [i] := by
          rw [HTK.out, List.filter_append]; simp [hq]
        have HFD := Lib.hid hfd
        have HFK := Lib.hid hfk
        have hdlen : ((l.take k).filter (fun i => !inclB z (entAt s.ents i).zone)).length ≤ 4096 := by
          have := List.length_filter_le (fun i => !inclB z (entAt s.ents i).zone) (l.take k)
          have := List.length_take_le k l
          omega
        clear hfd hfk hq
        generalize (l.take k).filter (fun i => inclB z (entAt s.ents i).zone) = dl at *
        generalize (l.take k).filter (fun i => !inclB z (entAt s.ents i).zone) = kl at *
        have hown := own_new HR.out.k ((New.refl _).alloc (.cells #[.int .i64 i] 3))
        have hel := elems_new w2 3 (.int .i64 i)
        have hsz : w.heap.size ≤ w2.heap.size := HR.out.size
        have HOWN := Lib.hid hown
        have HEL := Lib.hid hel
        clear hown hel
        go_wp2_with (at_builtin; refine wpList_append_elems rfl _ _ 25 rfl w.heap.size 3 i0 (.int .i64 0) 1 8 Try.underlying25 hi hz0 hz1 hz2 rfl (by decide) _ _ _ rfl HOWN.out (w2.heap.size + 1) _ 1 1 [.int .i64 i] rfl HEL.out rfl (by simp [Value.oneCell']) ?c1 ?c2 ?c3 ?_)
        case c1 => unfold maxLen; omega
        case c2 => omega
        case c3 => simp; omega
        intro v' w' ho hg hloc
        have hrel := HR.out.stay hb _ ho hg (by simpa using hloc)
        rw [← HFD.out, ← HFK.out] at hrel
        clear ho hg hloc hc3 hf3 h1
        go_wp2
        exact ⟨⟨k + 1, by omega, by go_num, hrel⟩, by simp [intOf]; omega⟩
    · have : k = l.length := by omega
      subst this
      rw [List.take_length, ← HDR.out, ← HKR.out] at hr
      have h1 := hr.row.cell 1
      have h2 := hr.row.cell 2
      simp only [List.getElem?_cons_succ, List.getElem?_cons_zero] at h1 h2
      have hf1 := hr.row.free 1
      have hsz := hr.size
      have HR := Lib.hid hr
      clear hr
      go_wp2_with fail
      have hcl := clone_bytes A0 c0 key wr.drew (Held.at_ (base := base) (w := wr.drew) (HK.out.step (HR.out.keep.trans (New.keeps (New.drew (New.refl wr)))) (HR.out.below.drew))) hkl
      have HCL := Lib.hid hcl
      clear hcl
      go_cut [] (fun wc => ∃ A4 c4 ka kc, Put2 base w wc ps s A4 c4 pm ml (dropped s.ents key z) (keptOf s.ents key z) u8 u11 (newEnt key z ka kc zb) ∧ Hid (∀ b o, ka = some (b, o) → w.heap.size ≤ b))
      case first =>
        obtain ⟨i1, hi1, hy0, hy1, hy2⟩ := info_parts infoOf143
        have hlim : s.ents.length ≤ 4095 := by omega
        go_region_law (first
          | (go_simp; go_at_call 81; refine HCL.out.mono ?_; rintro e w3 ⟨A3, c3, rfl, ho3, hn3⟩; obtain ⟨ka, rfl, hka⟩ := own_addr2 ho3; have HKA : Hid (∀ b o, ka = some (b, o) → w.heap.size ≤ b) := Lib.hid (fun b o e => Nat.le_trans HR.out.size (hka b o e)); clear hka; have h13 : w3.cell? ⟨ps, 1, none⟩ = some (.slice A s.ents.length c) := (hn3.row (HR.out.row.drew)).cell 1; have hlt3 : ps < w3.heap.size := (hn3.row (HR.out.row.drew)).lt)
          | (have hnx := ((New.refl wr).drew.trans hn3).alloc (.cells (entCells (newEnt key z ka c3 zb)).toArray 143)
             have hrx := HR.out.new hnx hb
             refine step_append_elems (by rfl) _ _ 139 (by rfl) base 143 i1 _ 4 48 Try.underlying139 hi1 hy0 hy1 hy2 (by rfl) (by omega) _ s.ents.length _ (by rfl) hrx.own (w3.heap.size + 1) _ 1 1 (entCells (newEnt key z ka c3 zb)) (by rfl) (elems_news w3 143 _) (by rfl) (entCells_one _) (by unfold maxLen; omega) (by omega) (by have := hrx.size; simp only [World.size_alloc] at this ⊢; omega) ?_
             intro A4 c4 w4 ho4 hg4 hloc4
             obtain ⟨g1, _⟩ := hrx.entries_grown hb hg4
             have h14 := g1.cell 1
             have hf14 := g1.free 1
             simp only [List.getElem?_cons_succ, List.getElem?_cons_zero] at h14
             have hent : EntOk (w3.alloc (.cells (entCells (newEnt key z ka c3 zb)).toArray 143)) (newEnt key z ka c3 zb) :=
               ⟨hby, (elemsT_of_own ho3).keeps (New.keeps ((New.refl w3).alloc _)) (by decide) (by decide), HZ.out.keeps hrx.keep, own_cap ho3, hkl⟩
             have HFIN := Lib.hid (hrx.entry hb HI.out.low hg4 ho4 hent)
             clear hnx g1 hent))
        all_goals
          go_wp2
          go_meet
          case rel => exact ⟨_, _, _, _, HFIN.out, HKA⟩
      case rest =>
        obtain ⟨A4, c4, ka, kc, hp, HKA⟩ := hcut
        have h2 := hp.row.cell 2
        simp only [List.getElem?_cons_succ, List.getElem?_cons_zero] at h2
        have hkf : ∀ x : World, Keeps w x → Below base w x → (convert 30 9 (.slice A0 key.length c0)).run Try.prog x = .ok (.string (strOfNums key)) x := fun x k1 k2 => run_key (HK.out x k1 k2) c0
        have HKF := Lib.hid hkf
        have hcv := hkf wc hp.keep hp.below
        have hcvd := hkf wc.drew (hp.keep.trans (New.keeps (New.refl wc).drew)) hp.below.drew
        have hcva := fun o => hkf (wc.drew.alloc o) (hp.keep.trans (New.keeps ((New.refl wc).drew.alloc o))) (hp.below.drew.alloc (by have := hp.below.size; show base ≤ wc.heap.size; omega) o)
        have hsz2 := hp.below.size
        have hklen : (keptOf s.ents key z).length ≤ 4096 := by
          have : (keptOf s.ents key z).length ≤ (idxs s.ents key).length := List.length_filter_le _ _
          have := idxs_length_le s.ents key
          omega
        have hlt2 : ps < wc.heap.size := hp.row.lt
        have HP := Lib.hid hp
        have HCV := Lib.hid hcv
        have HCVD := Lib.hid hcvd
        have HCVA := Lib.hid hcva
        have hokp := putS_ok HI.out.ok hfew key z ka kc zb
        have HOKP := Lib.hid hokp
        clear hp hkf hcv hcvd hcva hokp
        go_wp2_with fail
        go_region_held3 (fun x => x.cell? ⟨ps, 2, none⟩ = some (.map (some pm)) ∧ (convert 30 9 (.slice A0 key.length c0)).run Try.prog x = .ok (.string (strOfNums key)) x)
          (first
            | exact ⟨h2, HCVD.out⟩
            | exact ⟨by go_simp, HCVA.out _⟩
            | exact ⟨h25, hcv5⟩
            | exact ⟨h26, hcv6⟩)
          (first
            | (refine step_append_elems (by rfl) _ _ 25 (by rfl) w.heap.size 3 i0 _ 1 8 Try.underlying25 hi hz0 hz1 hz2 (by rfl) (by omega) _ _ _ (by rfl) (own_new HP.out.k ((New.refl wc).drew.alloc (.cells #[.int .i64 s.ents.length] 3))) (wc.heap.size + 1) _ 1 1 [.int .i64 s.ents.length] (by rfl) (elems_new wc.drew 3 _) (by rfl) (by simp [Value.oneCell']) (by unfold maxLen; omega) (by omega) (by simp; omega) ?_
               intro A5 c5 w5 ho5 hg5 hloc5
               obtain ⟨r1, r2, r3, r4, r5, r6, r7⟩ := HP.out.drew.number hb hg5
               have h25 := r1.cell 2
               simp only [List.getElem?_cons_succ, List.getElem?_cons_zero] at h25
               have hcv5 := HKF.out w5 r4 r5
               obtain ⟨w6, hmu, hm6, hat6⟩ := run_mapUpdate_string (P := Try.prog) r3 138 9 25 Try.underlying138 Try.underlying9 (strOfNums key) (.slice A5 ((keptOf s.ents key z).length + 1) c5)
               have hdone := putS_done HI.out hb hby HOKP.out r1 r2 r4 r5 r6 r7 (by rw [← nats_snoc]; exact ho5) ⟨_, r3⟩ hm6 hat6
               have HDONE := Lib.hid hdone
               have hrow6 : Row w6 ps 141 _ := hat6.row r1 (by
                 intro e
                 obtain ⟨es, clock, h3, _⟩ := r3
                 rw [← e, r1] at h3
                 cases h3)
               have h26 := hrow6.cell 2
               simp only [List.getElem?_cons_succ, List.getElem?_cons_zero] at h26
               have hcv6 := HKF.out w6 hdone.2.1 hdone.2.2.1
               clear r1 r2 r3 r4 r5 r6 r7 hdone hrow6 hm6 hat6 ho5 hg5 hloc5))
        go_wp2
        refine bodyPost_ret (v := .tuple #[.int .i64 s.ents.length, .bool false, u8, .int .i64 0]) (by simp [results, Try.results21, go_sem]) rfl ?_
        obtain ⟨d1, d2, d3, d4⟩ := HDONE.out
        exact ⟨u8, ka, kc, rfl, d4, d1, d2, d3, HKA.out⟩
theorem put_store {base : Nat} {ps : Nat} {s : Sto} (w : World) (h : StoreAt base w ps s) (A0 : Option Addr) (c0 : Nat) (key : List Int) (hk : Held base w A0 (key.map (Value.int .u8))) (hby : Bytes key) (hkl : key.length ≤ 140737488355328)
    (zb : Nat) (z : Zn) (hz : ZoneAt w zb z) (hb : base ≤ w.heap.size) (hneg : coversS s.ents key z < 0) (hfew : s.ents.length < 4096) :
    Calls Try.prog 21 #[.pointer (some ⟨ps, 0, none⟩), .slice A0 key.length c0, .pointer (some ⟨zb, 0, none⟩)] w fun e w' =>
      ∃ vd ka kc, e = .returned (.tuple #[.int .i64 s.ents.length, .bool false, vd, .int .i64 0]) ∧ w'.ownsRow w.heap.size 3 1 vd (dropped s.ents key z).length (nats (dropped s.ents key z)) ∧
        StoreAt base w' ps (putS s key z ka kc zb) ∧ Keeps w w' ∧ Below base w w' :=
  (put_store2 w h A0 c0 key hk hby hkl zb z hz hb hneg hfew).mono fun _ _ ⟨vd, ka, kc, h1, h2, h3, h4, h5, _⟩ => ⟨vd, ka, kc, h1, h2, h3, h4, h5⟩

set_option maxHeartbeats 400000 in
/-- Put of what is covered. -/
theorem put_covered {base : Nat} {ps : Nat} {s : Sto} (w : World) (h : StoreAt base w ps s) (A0 : Option Addr) (c0 : Nat) (key : List Int) (hk : Elems w w.heap.size A0 (key.map (Value.int .u8))) (hby : Bytes key)
    (zb : Nat) (z : Zn) (hz : ZoneAt w zb z) (hpos : 0 ≤ coversS s.ents key z) :
    Calls Try.prog 21 #[.pointer (some ⟨ps, 0, none⟩), .slice A0 key.length c0, .pointer (some ⟨zb, 0, none⟩)] w fun e w' =>
      e = .returned (.tuple #[.int .i64 (coversS s.ents key z), .bool true, .slice none 0 0, .int .i64 0]) ∧ Drew w w' := by
  have hcov := covers_any w h A0 c0 key hk hby zb z hz
  have HCOV := Lib.hid hcov
  clear hcov h hk hby hz
  generalize coversS s.ents key z = r at *
  go_enter Try.func21, Try.ntmps21
  go_wp2_with fail
  refine HCOV.out.mono ?_
  rintro e w' ⟨rfl, n, rfl⟩
  go_wp2_with fail
  refine bodyPost_ret (v := .tuple #[.int .i64 r, .bool true, .slice none 0 0, .int .i64 0]) (by simp [results, Try.results21, go_sem]) rfl ?_
  exact ⟨rfl, n, rfl⟩

set_option maxHeartbeats 400000 in
/-- Put where the store is full. -/
theorem put_full {base : Nat} {ps : Nat} {s : Sto} (w : World) (h : StoreAt base w ps s) (A0 : Option Addr) (c0 : Nat) (key : List Int) (hk : Elems w w.heap.size A0 (key.map (Value.int .u8))) (hby : Bytes key)
    (zb : Nat) (z : Zn) (hz : ZoneAt w zb z) (hneg : coversS s.ents key z < 0) (hfull : 4096 ≤ s.ents.length) :
    Calls Try.prog 21 #[.pointer (some ⟨ps, 0, none⟩), .slice A0 key.length c0, .pointer (some ⟨zb, 0, none⟩)] w fun e w' =>
      e = .returned (.tuple #[.int .i64 0, .bool false, .slice none 0 0, .int .i64 160]) ∧ Drew w w' := by
  have hcov := covers_any w h A0 c0 key hk hby zb z hz
  have HCOV := Lib.hid hcov
  obtain ⟨A, c, pm, ml, h⟩ := h
  obtain ⟨_, h1, _, _⟩ := h.cells
  clear hcov h hk hby hz
  generalize coversS s.ents key z = r at *
  have hf : (4096 : Int) ≤ s.ents.length := by omega
  go_enter Try.func21, Try.ntmps21
  go_wp2_with fail
  refine HCOV.out.mono ?_
  rintro e w' ⟨rfl, n, rfl⟩
  go_wp2_with fail
  refine bodyPost_ret (v := .tuple #[.int .i64 0, .bool false, .slice none 0 0, .int .i64 160]) (by simp [results, Try.results21, go_sem]) rfl ?_
  exact ⟨rfl, n, rfl⟩

set_option maxHeartbeats 400000 in
theorem put_nil_zone (ps : Addr) (k : Value) (w : World) :
    Calls Try.prog 21 #[.pointer (some ps), k, .pointer none] w fun e w' =>
      e = .returned (.tuple #[.int .i64 0, .bool false, .slice none 0 0, .int .i64 1]) ∧ w = w' := by
  go_enter Try.func21, Try.ntmps21
  go_wp2_with fail
  refine bodyPost_ret (v := .tuple #[.int .i64 0, .bool false, .slice none 0 0, .int .i64 1]) (by simp [results, Try.results21, go_sem]) rfl ?_
  exact ⟨rfl, rfl⟩
end Go.Proofs.Ytapfihlgemejiaa
