/- gnomonref16.Store.Put. -/
import Derived.Test.YtapfihlgemejiaaVT4
namespace Go.Proofs.Ytapfihlgemejiaa
open Go.RowKit Go.Proofs.YtapfihlgemejiaaW.PrintLast
def r128T : Bool × List (List Nat × List Nat) := (true, [([], []), ([], []), ([1], [1]), ([2], [2]), ([3], [3]), ([], []), ([], []), ([5, 6], [5, 6]), ([], []), ([7, 8], [7, 8]), ([9], [9]), ([4, 10, 7], [4, 10]), ([0, 0, 1, 2, 3, 4, 5, 6, 7, 8, 9, 10, 11], [0]), ([12, 0, 1, 2, 3, 4, 5, 6, 7, 8, 9, 10, 11], [12]), ([13, 11, 11, 0, 1, 2, 3, 4, 5, 6, 7, 8, 9, 10, 11], [11, 13])])
def r128B : List Nat := [0, 0, 2, 6, 14, 0, 0, 96, 0, 480, 992, 2046, 4095, 8191, 16383]
theorem r128Tab : rtab .any (opsOf Try.f128 16) = r128T := by kernel_rfl
theorem r128Bits : waitsOk r128T.2 r128B = true := by kernel_rfl
theorem infoOf5q : (Try.prog.info? 5).map (fun i => (i.zero, i.size, i.bytes)) = some (some (.int .u8 0), 1, 1) := by kernel_rfl
/-- Is entry i dropped by a zone of a key? -/
def dropB (l : List Ent) (key : List Int) (z : Zn) (i : Nat) : Bool := under l key i && inclB z (entAt l i).zone
def dropTo (l : List Ent) (key : List Int) (z : Zn) (i : Nat) : List Nat := (List.range i).filter (dropB l key z)
theorem dropTo_all (l : List Ent) (key : List Int) (z : Zn) : dropTo l key z l.length = dropped l key z := by
  unfold dropTo dropped idxs
  rw [List.filter_filter]
  apply List.filter_congr
  intro i _
  unfold dropB
  rw [Bool.and_comm]
theorem dropTo_succ (l : List Ent) (key : List Int) (z : Zn) (i : Nat) : dropTo l key z (i + 1) = dropTo l key z i ++ if dropB l key z i = true then [i] else [] := by
  unfold dropTo
  rw [List.range_succ, List.filter_append]
  simp [List.filter_cons]
theorem dropTo_lt {l : List Ent} {key : List Int} {z : Zn} {i j : Nat} (h : j ∈ dropTo l key z i) : j < i := by
  unfold dropTo at h
  exact List.mem_range.1 (List.mem_filter.1 h).1
theorem dropTo_le (l : List Ent) (key : List Int) (z : Zn) (i : Nat) : (dropTo l key z i).length ≤ i := by
  unfold dropTo
  exact Nat.le_trans (List.length_filter_le _ _) (by simp)
/-- The document's Put on its way: dl is dropped. -/
structure RPut (base : Nat) (w wr : World) (rs : Nat) (s : Sto) (A : Option Addr) (c : Nat) (L : Nat) (dl : List Nat) (vd : Value) : Prop where
  row : Row wr rs 190 [.slice A L c, .bool s.last, .int .i64 s.tk]
  own : wr.ownsRow base 194 5 (.slice A L c) L (rentRow (dropAll s.ents dl))
  keep : RKeeps w wr
  below : Below base w wr
  d : wr.ownsRow w.heap.size 3 1 vd dl.length (nats dl)
  low : base ≤ rs
  sz : base ≤ w.heap.size
section
variable {base : Nat} {w wr wx w' : World} {rs : Nat} {s : Sto} {A : Option Addr} {c L : Nat} {dl : List Nat} {vd v' : Value}
theorem RPut.bsz (h : RPut base w wr rs s A c L dl vd) : base ≤ wr.heap.size := Nat.le_trans h.sz h.below.size
theorem RPut.new (h : RPut base w wr rs s A c L dl vd) (hn : New wr w') : RPut base w w' rs s A c L dl vd :=
  ⟨hn.row h.row, own_new h.own hn, h.keep.trans hn.rkeeps, h.below.trans (hn.below h.bsz), own_new h.d hn, h.low, h.sz⟩
theorem RPut.ent (h : RPut base w wr rs s A c L dl vd) (hL : s.ents.length = L) (i : Nat) (hi : i < L) :
    ∃ pe, A = some ⟨pe, 0, none⟩ ∧ base ≤ pe ∧ (∃ cur, wr.heap[pe]? = some (Obj.cells cur 194 (0, 0))) ∧ (∀ k, wr.frozen? ⟨pe, k, none⟩ = false) ∧ ∀ e, entAt (dropAll s.ents dl) i = e →
      wr.cell? ⟨pe, i * 5, none⟩ = some (.slice (addrOf e.ka) e.key.length e.kc) ∧ wr.cell? ⟨pe, i * 5 + 1, none⟩ = some (.pointer (some ⟨e.zb, 0, none⟩)) ∧ wr.cell? ⟨pe, i * 5 + 2, none⟩ = some (.bool (waitsB e)) ∧ wr.cell? ⟨pe, i * 5 + 3, none⟩ = some (.bool e.gone) := by
  have hl : (dropAll s.ents dl).length = L := by rw [dropAll_length, hL]
  rcases h.own.2 with ⟨_, h0⟩ | ⟨pe, cap, cur, hv, hb, hg, _, _, _, ht⟩
  · omega
  · injection hv with hA _ _
    subst hA
    have hc : ∀ k, k < 5 → wr.cell? ⟨pe, i * 5 + k, none⟩ = (rentCells (entAt (dropAll s.ents dl) i))[k]? := fun k hk => by
      rw [cell_of_row wr pe _ cur 194 (0, 0) hg, ← rentRow_get _ i (by omega) k hk, ← ht, List.getElem?_take, if_pos (by omega), Nat.mul_comm i 5]
      simp
    refine ⟨pe, rfl, hb, ⟨cur, hg⟩, fun k => frozen_of_row wr pe k cur 194 hg, fun e he => ?_⟩
    subst he
    exact ⟨hc 0 (by omega), hc 1 (by omega), hc 2 (by omega), hc 3 (by omega)⟩
/-- Entry i is marked, and counted among what is dropped. -/
theorem RPut.drop {pe i : Nat} (h : RPut base w wr rs s (some ⟨pe, 0, none⟩) c L dl vd) (hL : s.ents.length = L) (hi : i < L)
    (hg : (((wr.setCell ⟨pe, i * 5 + 3, none⟩ (.bool true)).setCell ⟨pe, i * 5 + 2, none⟩ (.bool false)).alloc (.cells #[.int .i64 (i : Int)] 3)).grownBy w' vd.ownBlock) (ho : w'.ownsRow w.heap.size 3 1 v' (dl.length + 1) (nats dl ++ [.int .i64 i])) :
    RPut base w w' rs s (some ⟨pe, 0, none⟩) c L (dl ++ [i]) v' := by
  obtain ⟨hbp, cur, hcur⟩ := own_row h.own (g := pe) rfl
  have hne : rs ≠ pe := fun e => by
    have h1 := h.row
    unfold Row at h1
    rw [e, hcur] at h1
    simp only [Option.some.injEq, Obj.cells.injEq] at h1
    exact absurd h1.2.1 (by decide)
  have hk1 := h.keep.set (p := ⟨pe, i * 5 + 3, none⟩) ⟨cur, (0, 0), .inr hcur⟩ (.bool true)
  obtain ⟨cur2, hcur2⟩ := setCell_type (p := ⟨pe, i * 5 + 3, none⟩) hcur (.bool true) rfl rfl
  have hk2 := hk1.set (p := ⟨pe, i * 5 + 2, none⟩) ⟨cur2, (0, 0), .inr hcur2⟩ (.bool false)
  obtain ⟨cur3, hcur3⟩ := setCell_type (p := ⟨pe, i * 5 + 2, none⟩) hcur2 (.bool false) rfl rfl
  have r1 := (h.row.far (p := ⟨pe, i * 5 + 3, none⟩) hne (.bool true)).far (p := ⟨pe, i * 5 + 2, none⟩) hne (.bool false)
  have b1 := (h.below.setCell (p := ⟨pe, i * 5 + 3, none⟩) hbp (.bool true)).setCell (p := ⟨pe, i * 5 + 2, none⟩) hbp (.bool false)
  have o1 := own_set (own_set h.own (i * 5 + 3) (.bool true)) (i * 5 + 2) (.bool false)
  rw [Nat.mul_comm i 5, rentRow_gone _ i (by rw [dropAll_length]; omega), ← dropAll_snoc, Nat.mul_comm 5 i] at o1
  have d1 : ((wr.setCell ⟨pe, i * 5 + 3, none⟩ (.bool true)).setCell ⟨pe, i * 5 + 2, none⟩ (.bool false)).ownsRow w.heap.size 3 1 vd dl.length (nats dl) :=
    own_keep h.d fun g hgb => by
      have hgp : g ≠ pe := fun e => own_ne h.d hcur (by decide) (by rw [hgb, e])
      rw [heap_setCell_other _ ⟨pe, i * 5 + 2, none⟩ g _ hgp, heap_setCell_other _ ⟨pe, i * 5 + 3, none⟩ g _ hgp]
  have hn : New ((wr.setCell ⟨pe, i * 5 + 3, none⟩ (.bool true)).setCell ⟨pe, i * 5 + 2, none⟩ (.bool false)) _ := (New.refl _).alloc (.cells #[.int .i64 (i : Int)] 3)
  have d2 := own_new d1 hn
  have hF := Fr.of_grown (S := fun k => vd.ownBlock = some k) hg (fun k hk _ => hk)
  have hsz : w.heap.size ≤ ((wr.setCell ⟨pe, i * 5 + 3, none⟩ (.bool true)).setCell ⟨pe, i * 5 + 2, none⟩ (.bool false)).heap.size := b1.size
  refine ⟨hF.row (hn.row r1) (fun e => own_ne d2 (hn.row r1) (by decide) e), own_fr (own_new o1 hn) hF (fun g hg2 e => own_ne_own (own_new o1 hn) d2 (by decide) hg2 e), fun g o hgo hoo => ?_, ?_, by rw [List.length_append, ← nats_snoc]; exact ho, h.low, h.sz⟩
  · have hlt := (Array.getElem?_eq_some_iff.1 hgo).1
    have e1 := (hk2.trans hn.rkeeps) g o hgo hoo
    refine (hF.block g (Nat.lt_of_lt_of_le hlt (Nat.le_trans hsz hn.size)) (fun e => ?_)).trans e1
    have := (own_row d2 e).1
    omega
  · refine (b1.trans (hn.below (Nat.le_trans h.sz hsz))).grown hg (Nat.le_trans h.sz (Nat.le_trans hsz hn.size)) (fun k hk => ?_)
    have := (own_row d2 hk).1
    have := h.sz
    omega
/-- The new entry is stored. -/
theorem RPut.done {key : List Int} {z : Zn} {ka : Option (Nat × Nat)} {kc zb : Nat} {A8 : Option Addr} {c8 : Nat} {A0 : Option Addr} {cA : Nat} (h : RPut base w wr rs s A c L (dropped s.ents key z) vd) (hi : RStoreIn base w rs s A0 cA) (hL : s.ents.length = L) (hn : New wr wx)
    (hg : wx.grownBy w' (Value.slice A L c).ownBlock) (ho : w'.ownsRow base 194 5 (.slice A8 (L + 1) c8) (L + 1) (rentRow (dropAll s.ents (dropped s.ents key z)) ++ [.slice (addrOf ka) key.length kc, .pointer (some ⟨zb, 0, none⟩), .bool true, .bool false, .int .i64 (-1)]))
    (hk : ElemsT wx 5 (addrOf ka) (key.map (Value.int .u8))) (hby : Bytes key) (hz : RefAt wx zb z) (gz : ZGood z) (hkl : key.length ≤ 140737488355328) (hfew : s.ents.length < 4096) :
    RStoreAt base (w'.setCell ⟨rs, 0, none⟩ (.slice A8 (L + 1) c8)) rs (putS s key z ka kc zb) ∧ RKeeps w (w'.setCell ⟨rs, 0, none⟩ (.slice A8 (L + 1) c8)) ∧ Below base w (w'.setCell ⟨rs, 0, none⟩ (.slice A8 (L + 1) c8)) ∧
      (w'.setCell ⟨rs, 0, none⟩ (.slice A8 (L + 1) c8)).ownsRow w.heap.size 3 1 vd (dropped s.ents key z).length (nats (dropped s.ents key z)) ∧ w'.cell? ⟨rs, 0, none⟩ = some (.slice A L c) ∧ w'.frozen? ⟨rs, 0, none⟩ = false ∧ (w'.setCell ⟨rs, 0, none⟩ (.slice A8 (L + 1) c8)).cell? ⟨rs, 0, none⟩ = some (.slice A8 (L + 1) c8) := by
  have h1 := h.new hn
  have hF := Fr.of_grown (S := fun k => (Value.slice A L c).ownBlock = some k) hg (fun k hk _ => hk)
  have hrow := hF.row h1.row (fun e => own_ne h1.own h1.row (by decide) e)
  have hkp : RKeeps w w' := fun g o hgo hoo => by
    have hlt := (Array.getElem?_eq_some_iff.1 hgo).1
    have e1 := h1.keep g o hgo hoo
    refine (hF.block g (Nat.lt_of_lt_of_le hlt h1.below.size) (fun e => ?_)).trans e1
    obtain ⟨_, cur, h3⟩ := own_row h1.own e
    rw [e1, hgo] at h3
    injection h3 with h3
    exact (hoo cur (0, 0)).2 h3
  have hkp2 : RKeeps wx w' := fun g o hgo hoo => by
    have hlt := (Array.getElem?_eq_some_iff.1 hgo).1
    refine hF.block g hlt (fun e => ?_)
    obtain ⟨_, cur, h3⟩ := own_row h1.own e
    rw [hgo] at h3
    injection h3 with h3
    exact (hoo cur (0, 0)).2 h3
  have hk3 := hkp.set (p := ⟨rs, 0, none⟩) ⟨_, (0, 0), .inl hrow⟩ (.slice A8 (L + 1) c8)
  have hk4 := hkp2.set (p := ⟨rs, 0, none⟩) ⟨_, (0, 0), .inl hrow⟩ (.slice A8 (L + 1) c8)
  have hlen : (putS s key z ka kc zb).ents.length = L + 1 := by unfold putS; simp [dropAll_length, hL]
  have d1 := own_fr h1.d hF (fun g hg2 e => own_ne_own h1.d h1.own (by decide) hg2 e)
  have hb1 : Below base w w' := h1.below.grown hg h1.bsz (fun k hk => (own_row h1.own hk).1)
  refine ⟨⟨A8, c8, ?_, ?_, fun e he => ?_, putS_ok hi.ok hfew key z ka kc zb, h.low⟩, hk3, hb1.setCell (p := ⟨rs, 0, none⟩) h.low _, ?_, hrow.cell 0, hrow.free 0, (hrow.set 0 _).cell 0⟩
  · rw [hlen]; exact hrow.set 0 _
  · rw [hlen]
    have e2 : rentRow (putS s key z ka kc zb).ents = rentRow (dropAll s.ents (dropped s.ents key z)) ++ [.slice (addrOf ka) key.length kc, .pointer (some ⟨zb, 0, none⟩), .bool true, .bool false, .int .i64 (-1)] := by
      unfold putS rentRow
      rw [List.flatMap_append]
      rfl
    rw [e2]
    exact own_keep ho fun g hg2 => heap_setCell_other _ ⟨rs, 0, none⟩ g _ (fun e => by
      have e : g = rs := e
      subst e
      exact own_ne ho hrow (by decide) hg2)
  · unfold putS at he
    simp only [List.mem_append, List.mem_singleton] at he
    rcases he with he | he
    · obtain ⟨j, hj, hje⟩ := List.getElem_of_mem he
      rw [dropAll_length] at hj
      have h5 := (hi.entOk j hj).rkeeps hk3
      have h6 : entAt (dropAll s.ents (dropped s.ents key z)) j = e := by rw [entAt_eq (by rw [dropAll_length]; exact hj)]; exact hje
      rw [entAt_dropAll _ _ dropped_lt] at h6
      rw [← h6]
      split
      · exact ⟨h5.bytes, h5.key, h5.zone, h5.good, h5.len⟩
      · exact h5
    · subst he
      exact ⟨hby, hk.rkeeps hk4 (by decide) (by decide), hz.rkeeps hk4, gz, hkl⟩
  · exact own_keep d1 fun g hg2 => heap_setCell_other _ ⟨rs, 0, none⟩ g _ (fun e => by
      have e : g = rs := e
      subst e
      exact own_ne d1 hrow (by decide) hg2)
end
set_option maxHeartbeats 400000 in
theorem own_addr3 {w : World} {base e size n : Nat} {A : Option Addr} {c : Nat} {xs : List Value} (h : w.ownsRow base e size (.slice A n c) n xs) : ∃ ka, A = addrOf ka ∧ ∀ b o, ka = some (b, o) → base ≤ b := by
  rcases h.2 with ⟨h1, _⟩ | ⟨g, cap, cur, hv, hb, _⟩
  · cases h1; exact ⟨none, rfl, fun b o e => by cases e⟩
  · cases hv; exact ⟨some (g, 0), rfl, fun b o e => by cases e; exact hb⟩
theorem rput_nil_zone (rs : Addr) (k : Value) (w : World) : Calls Try.prog 128 #[.pointer (some rs), k, .pointer none] w fun e w' => e = .returned (.tuple #[.int .i64 0, .bool false, .slice none 0 0, .int .i64 1]) ∧ w = w' := by
  go_enter Try.func128, Try.ntmps128
  go_wp2
  exact bodyPost_ret (v := .tuple #[.int .i64 0, .bool false, .slice none 0 0, .int .i64 1]) (by simp [results, Try.results128, go_sem]) rfl ⟨rfl, rfl⟩
set_option maxRecDepth 100000 in
set_option maxHeartbeats 400000 in
theorem rput_covered {base : Nat} {rs : Nat} {s : Sto} (w : World) (h : RStoreAt base w rs s) (A0 : Option Addr) (c0 : Nat) (key : List Int) (hk : Elems w w.heap.size A0 (key.map (Value.int .u8))) (hby : Bytes key)
    (zb : Nat) (z : Zn) (hz : RefAt w zb z) (gz : ZGood z) (hpos : 0 ≤ coversS s.ents key z) :
    Calls Try.prog 128 #[.pointer (some ⟨rs, 0, none⟩), .slice A0 key.length c0, .pointer (some ⟨zb, 0, none⟩)] w fun e w' => e = .returned (.tuple #[.int .i64 (coversS s.ents key z), .bool true, .slice none 0 0, .int .i64 0]) ∧ New w w' := by
  have HC := Lib.hid (rcovers_any w h A0 c0 key hk hby zb z hz gz)
  generalize coversS s.ents key z = q at *
  generalize key.length = nk at *
  clear h hk hby hz gz
  go_enter Try.func128, Try.ntmps128
  go_wp2_with fail
  refine HC.out.mono ?_
  rintro e w1 ⟨rfl, hd⟩
  go_wp2_with fail
  exact bodyPost_ret (v := .tuple #[.int .i64 q, .bool true, .slice none 0 0, .int .i64 0]) (by simp [results, Try.results128, go_sem]) rfl ⟨rfl, hd.new⟩
set_option maxRecDepth 100000 in
set_option maxHeartbeats 400000 in
theorem rput_full {base : Nat} {rs : Nat} {s : Sto} (w : World) (h : RStoreAt base w rs s) (A0 : Option Addr) (c0 : Nat) (key : List Int) (hk : Elems w w.heap.size A0 (key.map (Value.int .u8))) (hby : Bytes key)
    (zb : Nat) (z : Zn) (hz : RefAt w zb z) (gz : ZGood z) (hneg : coversS s.ents key z < 0) (hfew : 4096 ≤ s.ents.length) :
    Calls Try.prog 128 #[.pointer (some ⟨rs, 0, none⟩), .slice A0 key.length c0, .pointer (some ⟨zb, 0, none⟩)] w fun e w' => e = .returned (.tuple #[.int .i64 0, .bool false, .slice none 0 0, .int .i64 160]) ∧ New w w' := by
  have HC := Lib.hid (rcovers_any w h A0 c0 key hk hby zb z hz gz)
  have HH := Lib.hid (fun W (hn : New w W) => h.new hn)
  generalize coversS s.ents key z = q at *
  generalize key.length = nk at *
  clear h hk hby hz gz
  go_enter Try.func128, Try.ntmps128
  go_wp2_with fail
  refine HC.out.mono ?_
  rintro e w1 ⟨rfl, hd⟩
  obtain ⟨A, c, h⟩ := HH.out w1 hd.new
  have h0 := h.cells.1
  have hfz : (4096 : Int) ≤ (s.ents.length : Int) := by omega
  generalize s.ents.length = L at *
  clear h
  go_wp2_with fail
  exact bodyPost_ret (v := .tuple #[.int .i64 0, .bool false, .slice none 0 0, .int .i64 160]) (by simp [results, Try.results128, go_sem]) rfl ⟨rfl, hd.new⟩
set_option maxRecDepth 100000 in
set_option maxHeartbeats 8000000 in
theorem rput_store2 {base : Nat} {rs : Nat} {s : Sto} (w : World) (h : RStoreAt base w rs s) (A0 : Option Addr) (c0 : Nat) (key : List Int) (hk : Elems w base A0 (key.map (Value.int .u8))) (hby : Bytes key) (hkl : key.length ≤ 140737488355328)
    (zb : Nat) (z : Zn) (hz : RefAt w zb z) (gz : ZGood z) (hb : base ≤ w.heap.size) (hneg : coversS s.ents key z < 0) (hfew : s.ents.length < 4096) :
    Calls Try.prog 128 #[.pointer (some ⟨rs, 0, none⟩), .slice A0 key.length c0, .pointer (some ⟨zb, 0, none⟩)] w fun e w' =>
      ∃ vd ka kc, e = .returned (.tuple #[.int .i64 s.ents.length, .bool false, vd, .int .i64 0]) ∧ w'.ownsRow w.heap.size 3 1 vd (dropped s.ents key z).length (nats (dropped s.ents key z)) ∧
        RStoreAt base w' rs (putS s key z ka kc zb) ∧ RKeeps w w' ∧ Below base w w' ∧ ∀ b o, ka = some (b, o) → w.heap.size ≤ b := by
  obtain ⟨i0, hi0, hz0, hz1, hz2⟩ := info_parts infoOf194
  obtain ⟨j0, hj0, hy0, hy1, hy2⟩ := info_parts infoOf5q
  obtain ⟨k0, hk0, hx0, hx1, hx2⟩ := info_parts infoOf3
  have HC := Lib.hid (rcovers_any w h A0 c0 key (hk.mono hb) hby zb z hz gz)
  obtain ⟨A, c, h⟩ := h
  have HI := Lib.hid h
  have HKE := Lib.hid (fun W (hW : Below base w W) => (hk.below hW).mono (Nat.le_trans hb hW.size))
  have HBY := Lib.hid hby
  have HZ := Lib.hid hz
  have HGZ := Lib.hid gz
  have HKL := Lib.hid hkl
  have HFEW := Lib.hid hfew
  obtain ⟨L, hL⟩ : ∃ L, s.ents.length = L := ⟨_, rfl⟩
  obtain ⟨nk, hnk⟩ : ∃ nk, key.length = nk := ⟨_, rfl⟩
  have HL := Lib.hid hL
  have HNK := Lib.hid hnk
  rw [hL] at hfew
  rw [hnk] at hkl HC
  have hfz : (L : Int) < 4096 := by omega
  have HNEG := Lib.hid hneg
  have hcv : coversS s.ents key z = -1 := by
    unfold coversS at hneg ⊢
    exact firstIn_neg hneg
  rw [hcv] at HC
  have HR0 : Hid (∀ W, New w W → RPut base w W rs s A c L [] (.slice none 0 0)) := fun W hW => by
    have h2 := h.keep_new hW
    exact ⟨by have h3 := h2.row; rw [hL] at h3; exact h3, by have h3 := h2.own; rw [hL] at h3; exact h3, hW.rkeeps, hW.below hb, World.ownsRow_nil _ _ _ _, h.low, hb⟩
  rw [hL, hnk]
  clear h hk hby hz gz hL hnk hneg hcv
  go_enter Try.func128, Try.ntmps128
  go_wp2_with fail
  refine HC.out.mono ?_
  rintro e w1 ⟨rfl, hd1⟩
  have R1 := Lib.hid (HR0.out w1 hd1.new)
  have h0 := R1.out.row.cell 0
  simp only [List.getElem?_cons_zero] at h0
  clear hd1 HR0 HC
  go_wp2_with fail
  clear h0
  go_loopw [11, 12] (fun vd vi wr => ∃ i : Nat, i ≤ L ∧ vi = .int .i64 i ∧ Hid (RPut base w wr rs s A c L (dropTo s.ents key z i) vd)) (fun _ vi _ => L - (intOf vi).toNat)
  case atStart => exact ⟨0, Nat.zero_le _, by go_num, R1⟩
  case round =>
    obtain ⟨i, hi, rfl, R⟩ := hrel
    have h0 := R.out.row.cell 0
    simp only [List.getElem?_cons_zero] at h0
    by_cases hil : i < L
    · have hiz : (i : Int) < L := by omega
      obtain ⟨pe, hA, hbp, ⟨cur, hcur⟩, hfrz, hent⟩ := R.out.ent HL.out i hil
      subst hA
      have hnd : i ∉ dropTo s.ents key z i := fun h => absurd (dropTo_lt h) (Nat.lt_irrefl i)
      have hea : entAt (dropAll s.ents (dropTo s.ents key z i)) i = entAt s.ents i := by
        rw [entAt_dropAll _ _ (fun j hj => by have := dropTo_lt hj; have := HL.out; omega), if_neg hnd]
      obtain ⟨e0, e1, e2, e3⟩ := hent _ hea
      have hok := (HI.out.entOk i (by rw [HL.out]; exact hil)).rkeeps R.out.keep
      obtain ⟨e, he⟩ : ∃ e, entAt s.ents i = e := ⟨_, rfl⟩
      rw [he] at e0 e1 e2 e3 hok
      have hcov : dropB s.ents key z i = (decide (e.key = key) && !e.gone && inclB z e.zone) := by unfold dropB under; rw [he]
      have hsame := rsame_any (addrOf e.ka) A0 e.kc c0 e.key key wr hok.key.elems (HKE.out wr R.out.below) hok.bytes HBY.out
      have hinc := rincludes_any zb e.zb z e.zone wr (HZ.out.rkeeps R.out.keep) hok.zone HGZ.out hok.good
      rw [HNK.out] at hsame
      have hsu := dropTo_succ s.ents key z i
      have hdl := dropTo_le s.ents key z i
      obtain ⟨S, hS⟩ : ∃ S, dropTo s.ents key z i = S := ⟨_, rfl⟩
      rw [hS] at hsu hdl R
      generalize addrOf e.ka = ka at *
      generalize e.key.length = ne at *
      generalize e.kc = kc at *
      generalize e.zb = eb at *
      generalize decide (e.key = key) = bk at *
      generalize inclB z e.zone = bi at *
      generalize e.gone = bg at *
      generalize waitsB e = bw at *
      have HS := Lib.hid hsame
      have HN := Lib.hid hinc
      have HCV := Lib.hid hcov
      have HSU := Lib.hid hsu
      have f3 := hfrz (i * 5 + 3)
      have f2 := hfrz (i * 5 + 2)
      clear hok hsame hinc hcov he hsu hS hent hea hnd hfrz
      have hnext : ∀ W, Drew wr W → dropB s.ents key z i = false → (∃ i' : Nat, i' ≤ L ∧ Value.int .i64 ((i : Int) + 1) = .int .i64 i' ∧ Hid (RPut base w W rs s (some ⟨pe, 0, none⟩) c L (dropTo s.ents key z i') u11)) := fun W hW hc =>
        ⟨i + 1, by omega, by go_num, by show RPut _ _ _ _ _ _ _ _ _ _; rw [HSU.out, hc, if_neg (by decide), List.append_nil]; exact R.out.new hW.new⟩
      have HNX := Lib.hid hnext
      clear hnext
      cases bg with
      | true =>
        go_wp2_with fail
        exact ⟨HNX.out _ (Drew.refl _) (by rw [HCV.out]; simp), by simp [intOf] <;> omega⟩
      | false =>
        cases bk with
        | false =>
          go_wp2_with fail
          refine HS.out.mono ?_
          rintro e w' ⟨rfl, rfl⟩
          go_wp2_with fail
          exact ⟨HNX.out _ (Drew.refl _) (by rw [HCV.out]; simp), by simp [intOf] <;> omega⟩
        | true =>
          go_wp2_with fail
          refine HS.out.mono ?_
          rintro e w' ⟨rfl, rfl⟩
          go_wp2_with fail
          refine HN.out.mono ?_
          rintro e w2 ⟨rfl, hd2⟩
          cases bi with
          | false =>
            go_wp2_with fail
            exact ⟨HNX.out _ hd2 (by rw [HCV.out]; simp), by simp [intOf] <;> omega⟩
          | true =>
            have R2 := Lib.hid (R.out.new hd2.new)
            obtain ⟨nd, rfl⟩ := hd2
            have hrow2 := R2.out.row
            obtain ⟨_, cur2, hcur2⟩ := own_row R2.out.own (g := pe) rfl
            have hne : rs ≠ pe := fun e => by
              unfold Row at hrow2
              rw [e, hcur2] at hrow2
              simp only [Option.some.injEq, Obj.cells.injEq] at hrow2
              exact absurd hrow2.2.1 (by decide)
            have g0 : ((wr.drewN nd).setCell ⟨pe, i * 5 + 3, none⟩ (.bool true)).cell? ⟨rs, 0, none⟩ = some (.slice (some ⟨pe, 0, none⟩) L c) := (hrow2.far (p := ⟨pe, i * 5 + 3, none⟩) hne _).cell 0
            have q3 : (wr.drewN nd).cell? ⟨pe, i * 5 + 3, none⟩ = some (.bool false) := e3
            have q3f : (wr.drewN nd).frozen? ⟨pe, i * 5 + 3, none⟩ = false := f3
            have o2 := own_set R2.out.own (i * 5 + 3) (.bool true)
            obtain ⟨g', hg', _, _, hcc, hff⟩ := own_cell o2 (by rw [List.length_set, rentRow_length, dropAll_length, HL.out]; omega)
            cases hg'
            have q2 : ∃ u, ((wr.drewN nd).setCell ⟨pe, i * 5 + 3, none⟩ (.bool true)).cell? ⟨pe, i * 5 + 2, none⟩ = some u := ⟨_, hcc (i * 5 + 2) _ (List.getElem?_eq_getElem (by rw [List.length_set, rentRow_length, dropAll_length, HL.out]; omega))⟩
            obtain ⟨uq, q2⟩ := q2
            have q2f := hff (i * 5 + 2)
            have hd1 : ((wr.drewN nd).setCell ⟨pe, i * 5 + 3, none⟩ (.bool true)).setCell ⟨pe, i * 5 + 2, none⟩ (.bool false) = ((wr.drewN nd).setCell ⟨pe, i * 5 + 3, none⟩ (.bool true)).setCell ⟨pe, i * 5 + 2, none⟩ (.bool false) := rfl
            have d1 : (((wr.drewN nd).setCell ⟨pe, i * 5 + 3, none⟩ (.bool true)).setCell ⟨pe, i * 5 + 2, none⟩ (.bool false)).ownsRow w.heap.size 3 1 u11 S.length (nats S) :=
              own_keep R2.out.d fun g hgb => by
                have hgp : g ≠ pe := fun e => own_ne R2.out.d hcur2 (by decide) (by rw [hgb, e])
                rw [heap_setCell_other _ ⟨pe, i * 5 + 2, none⟩ g _ hgp, heap_setCell_other _ ⟨pe, i * 5 + 3, none⟩ g _ hgp]
            have hN5 := (New.refl (((wr.drewN nd).setCell ⟨pe, i * 5 + 3, none⟩ (.bool true)).setCell ⟨pe, i * 5 + 2, none⟩ (.bool false))).alloc (.cells #[.int .i64 (i : Int)] 3)
            have HOWN := Lib.hid (own_new d1 hN5)
            have hel := elems_new (((wr.drewN nd).setCell ⟨pe, i * 5 + 3, none⟩ (.bool true)).setCell ⟨pe, i * 5 + 2, none⟩ (.bool false)) 3 (.int .i64 (i : Int))
            rw [show (((wr.drewN nd).setCell ⟨pe, i * 5 + 3, none⟩ (.bool true)).setCell ⟨pe, i * 5 + 2, none⟩ (.bool false)).heap.size = wr.heap.size by simp] at hel
            have HEL := Lib.hid hel
            clear hel
            have hszz : w.heap.size ≤ (((wr.drewN nd).setCell ⟨pe, i * 5 + 3, none⟩ (.bool true)).setCell ⟨pe, i * 5 + 2, none⟩ (.bool false)).heap.size := by
              have := R2.out.below.size
              simpa using this
            have HSZ := Lib.hid (Nat.le_trans hszz hN5.size)
            have HYES : Hid (dropTo s.ents key z (i + 1) = S ++ [i]) := by show _ = _; rw [HSU.out, HCV.out]; simp
            clear hN5 d1 hd1 hszz hcc hff o2 hcur2 hrow2 hne e0 e1 e2 e3 f3 f2 HNX hcur
            go_wp2_with (at_builtin; (refine wpList_append_elems rfl _ _ 25 rfl w.heap.size 3 k0 (.int .i64 0) 1 8 Try.underlying25 hk0 hx0 hx1 hx2 rfl (by decide) _ S.length _ (by rfl) HOWN.out _ _ 1 1 _ (by rfl) HEL.out rfl ?c1 ?c2 ?c3 HSZ.out ?_))
            case c1 => first | rfl | (intro y hy; simp at hy; subst hy; rfl)
            case c2 => unfold maxLen; omega
            case c3 => omega
            intro v' w' ho' hg' hb'
            have RN := Lib.hid (R2.out.drop HL.out hil hg' ho')
            clear ho' hg' hb'
            go_wp2_with fail
            refine ⟨⟨i + 1, by omega, by go_num, ?_⟩, by simp [intOf] <;> omega⟩
            show RPut _ _ _ _ _ _ _ _ _ _
            rw [HYES.out]
            exact RN.out
    · have hiz : ¬ (i : Int) < L := by omega
      have hie : i = L := by omega
      have h1 := R.out
      rw [hie, ← HL.out, dropTo_all, HL.out] at h1
      have R := Lib.hid h1
      have HC0 := Lib.hid (fun W (hW : New wr W) => (show W.cell? ⟨rs, 0, none⟩ = some (.slice A L c) from (R.out.new hW).row.cell 0))
      have HNW := Lib.hid R.out.keep
      have hvd := own_form R.out.d
      obtain ⟨Ad, cd, hvd⟩ := hvd
      subst hvd
      clear h1 hie
      go_wp2_with fail
      clear h0
      refine start_ (n := 15) (S := fun W => New wr W) (ds := [11, 14]) #[false, false, false, false, false, false, false, false, false, false, false, false, false, false, false] (by kernel_rfl) rfl rfl (New.refl wr).drew (fun hHeld => ?_); refine with_tabW r128Tab r128Bits (fun HT_ HW_ => ?_)
      generalize wr.drew = wd at hHeld ⊢
      refine pure_ (i := 0) (N := some 92) (v := ?_) (a' := ?_) #[true, false, false, false, false, false, false, false, false, false, false, false, false, false, false] rfl rfl (any_of HT_.out (by kernel_rfl)) (fun _ _ _ h => h) (Or.inl ⟨by rfl, ?_⟩) ?_ ?_
      rotate_left
      · intro w'
        go_simp
        with_reducible rfl
      rotate_left
      · simp only [Act.put, List.setIfInBounds_toArray, List.set_cons_zero, List.set_cons_succ]
        rfl
      refine pure_ (i := 1) (N := some 93) (v := ?_) (a' := ?_) #[true, true, false, false, false, false, false, false, false, false, false, false, false, false, false] rfl rfl (any_of HT_.out (by kernel_rfl)) (fun _ _ _ h => h) (Or.inl ⟨by rfl, ?_⟩) ?_ ?_
      rotate_left
      · intro w'
        go_simp
        with_reducible rfl
      rotate_left
      · simp only [Act.put, List.setIfInBounds_toArray, List.set_cons_zero, List.set_cons_succ]
        rfl
      refine pure_ (i := 2) (N := some 94) (v := ?_) (a' := ?_) #[true, true, true, false, false, false, false, false, false, false, false, false, false, false, false] rfl rfl (any_of HT_.out (by kernel_rfl)) (fun _ _ _ h => h) (Or.inl ⟨by rfl, ?_⟩) ?_ ?_
      rotate_left
      · intro w'
        go_simp
        with_reducible rfl
      rotate_left
      · simp only [Act.put, List.setIfInBounds_toArray, List.set_cons_zero, List.set_cons_succ]
        rfl
      refine pure_ (i := 3) (N := some 95) (v := ?_) (a' := ?_) #[true, true, true, true, false, false, false, false, false, false, false, false, false, false, false] rfl rfl (any_of HT_.out (by kernel_rfl)) (fun _ _ _ h => h) (Or.inl ⟨by rfl, ?_⟩) ?_ ?_
      rotate_left
      · intro w'
        go_simp
        with_reducible rfl
      rotate_left
      · simp only [Act.put, List.setIfInBounds_toArray, List.set_cons_zero, List.set_cons_succ]
        rfl
      refine pure_ (i := 6) (N := some 98) (v := ?_) (a' := ?_) #[true, true, true, true, false, false, true, false, false, false, false, false, false, false, false] rfl rfl (any_of HT_.out (by kernel_rfl)) (fun _ _ _ h => h) (Or.inl ⟨by rfl, ?_⟩) ?_ ?_
      rotate_left
      · intro w'
        go_simp
        with_reducible rfl
      rotate_left
      · simp only [Act.put, List.setIfInBounds_toArray, List.set_cons_zero, List.set_cons_succ]
        rfl
      refine pure_ (i := 8) (N := some 100) (v := ?_) (a' := ?_) #[true, true, true, true, false, false, true, false, true, false, false, false, false, false, false] rfl rfl (any_of HT_.out (by kernel_rfl)) (fun _ _ _ h => h) (Or.inl ⟨by rfl, ?_⟩) ?_ ?_
      rotate_left
      · intro w'
        go_simp
        with_reducible rfl
      rotate_left
      · simp only [Act.put, List.setIfInBounds_toArray, List.set_cons_zero, List.set_cons_succ]
        rfl
      refine take_ (i := 4) (N := some 96) (v := ?_) (a' := ?_) #[true, true, true, true, true, false, true, false, true, false, false, false, false, false, false] rfl rfl (take_ofW HT_.out HW_.out (by kernel_rfl)) (fun _ _ _ h => h) (Or.inl ⟨by rfl, ?_⟩) hHeld ?_ ?_
      rotate_left
      · intro w' hkt
        have s0 := HC0.out w' hkt
        go_simp
        with_reducible rfl
      rotate_left
      · simp only [Act.put, List.setIfInBounds_toArray, List.set_cons_zero, List.set_cons_succ]
        rfl
      refine one_ (i := 5) (N := some 97) #[true, true, true, true, true, true, true, false, true, false, false, false, false, false, false] rfl rfl (one_of HT_.out (by kernel_rfl)) (by decide) (fun K hK => ?_)
      refine gives_ (v := .slice (some ⟨wd.heap.size, 0, none⟩) 0 0) (w1 := wd.alloc (.cells #[] 5)) (by rfl) rfl (by go_simp) ?_
      have hHeld0 := hHeld
      refine hK.out _ _ (hHeld0.alloc _) (fun hHeld => ?_)
      clear hK K
      refine norm_ (a' := ?_) ?_ ?_
      rotate_left
      · show Act.put _ (some 97) _ = _
        simp only [Act.put, List.setIfInBounds_toArray, List.set_cons_zero, List.set_cons_succ]
        rfl
      have hel := (HKE.out wd (R.out.below.trans (hHeld0.below R.out.bsz))).new ((New.refl wd).alloc (.cells #[] 5)) (Nat.le_refl _)
      obtain ⟨v7, w7, hrun7, ho7, hg7, hb7⟩ := run_append_elems2 (P := Try.prog) (wd.alloc (.cells #[] 5)) wd.heap.size 30 30 5 j0 (.int .u8 0) 1 1 Try.underlying30 hj0 hy0 hy1 hy2 rfl (by decide) _ 0 [] (own_empty wd wd.heap.size 5 1 (Nat.le_refl _)) _ _ nk c0 _ hel (by rw [List.length_map, HNK.out, Nat.mul_one]) (ints_cells .u8 key) (by unfold maxLen; omega) (by omega) (by simp)
      obtain ⟨A7, c7, hv7⟩ := own_form ho7
      subst hv7
      rw [Nat.zero_add] at ho7 hrun7
      rw [List.nil_append] at ho7
      obtain ⟨ka, hka, hkf⟩ := own_addr3 ho7
      subst hka
      have HKF : Hid (∀ b o, ka = some (b, o) → w.heap.size ≤ b) := Lib.hid (fun b o e => Nat.le_trans R.out.below.size (Nat.le_trans hHeld0.size (hkf b o e)))
      clear hkf
      have hN7 : New wd w7 := Fr.then ((New.refl wd).alloc (.cells #[] 5)) (Fr.of_grown (S := fun k => Value.ownBlock _ = some k) hg7 (fun k hk _ => hk)) (fun _ _ e => e) (fun k hk e => by have e2 : some wd.heap.size = some k := e; injection e2 with e2; omega)
      have HO7 := Lib.hid ho7
      have HN7 := Lib.hid (hHeld0.trans hN7)
      clear hb7 hg7 hel hN7 ho7
      refine one_ (i := 7) (N := some 99) #[true, true, true, true, true, true, true, true, true, false, false, false, false, false, false] rfl rfl (one_of HT_.out (by kernel_rfl)) (by decide) (fun K hK => ?_)
      refine gives_ (v := .slice (addrOf ka) nk c7) (w1 := w7) (by rfl) rfl (exec_app rfl rfl rfl hrun7) ?_
      refine hK.out _ _ HN7.out (fun hHeld => ?_)
      clear hK K
      refine norm_ (a' := ?_) ?_ ?_
      rotate_left
      · show Act.put _ (some 99) _ = _
        simp only [Act.put, List.setIfInBounds_toArray, List.set_cons_zero, List.set_cons_succ]
        rfl
      clear hrun7
      refine pure_ (i := 9) (N := some 101) (v := ?_) (a' := ?_) #[true, true, true, true, true, true, true, true, true, true, false, false, false, false, false] rfl rfl (any_of HT_.out (by kernel_rfl)) (fun _ _ _ h => h) (Or.inl ⟨by rfl, ?_⟩) ?_ ?_
      rotate_left
      · intro w'
        go_simp
        with_reducible rfl
      rotate_left
      · simp only [Act.put, List.setIfInBounds_toArray, List.set_cons_zero, List.set_cons_succ]
        rfl
      refine one_ (i := 10) (N := some 102) #[true, true, true, true, true, true, true, true, true, true, true, false, false, false, false] rfl rfl (one_of HT_.out (by kernel_rfl)) (by decide) (fun K hK => ?_)
      refine gives_ (v := .slice (some ⟨w7.heap.size, 0, none⟩) 1 1) (w1 := w7.alloc (.cells #[.slice (addrOf ka) nk c7, .pointer (some ⟨zb, 0, none⟩), .bool true, .bool false, .int .i64 (-1)] 194)) (by rfl) rfl (by go_simp) ?_
      have hHeld1 := hHeld
      refine hK.out _ _ (hHeld1.alloc _) (fun hHeld => ?_)
      clear hK K
      refine norm_ (a' := ?_) ?_ ?_
      rotate_left
      · show Act.put _ (some 102) _ = _
        simp only [Act.put, List.setIfInBounds_toArray, List.set_cons_zero, List.set_cons_succ]
        rfl
      have hel := elems_news w7 194 [.slice (addrOf ka) nk c7, .pointer (some ⟨zb, 0, none⟩), .bool true, .bool false, .int .i64 (-1)]
      have hown := own_new R.out.own hHeld
      obtain ⟨v', w3, hrun, ho3, hg3, hb3⟩ := run_append_elems2 (P := Try.prog) (w7.alloc (.cells #[.slice (addrOf ka) nk c7, .pointer (some ⟨zb, 0, none⟩), .bool true, .bool false, .int .i64 (-1)] 194)) base 188 188 194 i0 (.agg #[.slice none 0 0, .pointer none, .bool false, .bool false, .int .i64 0]) 5 48 Try.underlying188 hi0 hz0 hz1 hz2 rfl (by decide) _ L _ hown _ _ 1 1 _ hel rfl (by intro y hy; simp at hy; rcases hy with rfl | rfl | rfl | rfl | rfl <;> rfl) (by unfold maxLen; omega) (by omega) (Nat.le_trans R.out.bsz hHeld.size)
      obtain ⟨A8, c8, hv8⟩ := own_form ho3
      subst hv8
      obtain ⟨r1, r2, r3, r4, r5, r6, r7⟩ := R.out.done HI.out HL.out hHeld (ka := ka) (kc := c7) (zb := zb) hg3 (by rw [HNK.out]; exact ho3) ((elemsT_of_own HO7.out).keeps ((New.refl w7).alloc _).keeps (by decide) (by decide)) HBY.out ((HZ.out.rkeeps HNW.out).new hHeld) HGZ.out HKL.out HFEW.out
      have R1 := Lib.hid r1
      have R2 := Lib.hid r2
      have R3 := Lib.hid r3
      have R4 := Lib.hid r4
      clear r1 r2 r3 r4 hb3 hg3 hel hown ho3
      refine last_ (i := 11) (N := some 103) #[true, true, true, true, true, true, true, true, true, true, true, true, false, false, false] rfl rfl (one_of HT_.out (by kernel_rfl)) (by decide) (fun K hK => ?_)
      refine gives_ (v := .slice A8 (L + 1) c8) (w1 := w3) (by rfl) rfl (exec_app rfl rfl rfl hrun) ?_
      refine hK.out _ _ ?_
      clear hK K
      refine norm_ (a' := ?_) ?_ ?_
      rotate_left
      · show Act.put _ (some 103) _ = _
        simp only [Act.put, List.setIfInBounds_toArray, List.set_cons_zero, List.set_cons_succ]
        rfl
      refine pure_ (i := 12) (N := some 104) (v := ?_) (a' := ?_) #[true, true, true, true, true, true, true, true, true, true, true, true, true, false, false] rfl rfl (any_of HT_.out (by kernel_rfl)) (fun _ _ _ h => h) (Or.inl ⟨by rfl, ?_⟩) ?_ ?_
      rotate_left
      · intro w'
        go_simp
        with_reducible rfl
      rotate_left
      · simp only [Act.put, List.setIfInBounds_toArray, List.set_cons_zero, List.set_cons_succ]
        rfl
      refine pure_ (i := 13) (N := some 105) (v := ?_) (a' := ?_) #[true, true, true, true, true, true, true, true, true, true, true, true, true, true, false] rfl rfl (any_of HT_.out (by kernel_rfl)) (fun _ _ _ h => h) (Or.inl ⟨by rfl, ?_⟩) ?_ ?_
      rotate_left
      · intro w'
        go_simp
        with_reducible rfl
      rotate_left
      · simp only [Act.put, List.setIfInBounds_toArray, List.set_cons_zero, List.set_cons_succ]
        rfl
      refine last_ (i := 14) (N := none) #[true, true, true, true, true, true, true, true, true, true, true, true, true, true, true] rfl rfl (one_of HT_.out (by kernel_rfl)) (by decide) (fun K hK => ?_)
      refine skip_ (w1 := w3.setCell ⟨rs, 0, none⟩ (.slice A8 (L + 1) c8)) (by rfl) rfl (by go_simp) ?_
      refine hK.out _ _ ?_
      clear hK K
      refine done_ (done_of HT_.out (by kernel_rfl)) ?_
      have hwL : IntKind.i64.wrap ((L : Int) + 1 - 1) = (L : Int) := by rw [IntKind.wrap_i64]; omega
      have hwL2 : (L : Int) + 1 - 1 = (L : Int) := by omega
      clear r5 r6
      go_wp2_with fail
      refine bodyPost_ret (v := .tuple #[.int .i64 L, .bool false, .slice Ad _ cd, .int .i64 0]) (by simp [results, Try.results128, go_sem]) rfl ⟨_, _, _, rfl, R4.out, R1.out, R2.out, R3.out, HKF.out⟩
end Go.Proofs.Ytapfihlgemejiaa
