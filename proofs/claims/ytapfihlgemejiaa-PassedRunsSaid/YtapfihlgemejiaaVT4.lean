/- gnomonref16.Store: Take, Fork. -/
import Derived.Test.YtapfihlgemejiaaVT3
import Derived.Test.YtapfihlgemejiaaVS7
namespace Go.Proofs.Ytapfihlgemejiaa
open Go.RowKit Go.Proofs.YtapfihlgemejiaaW.PrintLast
def r130aT : Bool × List (List Nat × List Nat) := (true, [([], []), ([0], [0]), ([1], [1]), ([2], [2]), ([], []), ([4], [4]), ([5], [5]), ([3, 6, 0, 1, 2, 3, 4, 5, 6], [3, 6]), ([7, 0, 1, 2, 3, 4, 5, 6], [7]), ([8, 0, 1, 2, 3, 4, 5, 6], [8])])
def r130aB : List Nat := [0, 1, 3, 7, 0, 16, 48, 127, 255, 511]
theorem r130aTab : rtab .any (opsOf Try.f130 4) = r130aT := by kernel_rfl
theorem r130aBits : waitsOk r130aT.2 r130aB = true := by kernel_rfl
def r130bT : Bool × List (List Nat × List Nat) := (true, [([], []), ([0], [0]), ([1], [1]), ([2], [2]), ([], []), ([4], [4]), ([5], [5]), ([], []), ([7], [7]), ([8], [8]), ([9], [9]), ([3, 6, 0, 1, 2, 3, 4, 5, 6, 7, 8, 9, 10], [3, 6]), ([11, 0, 1, 2, 3, 4, 5, 6, 7, 8, 9, 10], [11]), ([12, 10, 0, 1, 2, 3, 4, 5, 6, 7, 8, 9, 10], [10, 12])])
def r130bB : List Nat := [0, 1, 3, 7, 0, 16, 48, 0, 128, 384, 896, 2047, 4095, 8191]
theorem r130bTab : rtab .any (opsOf Try.f130 5) = r130bT := by kernel_rfl
theorem r130bBits : waitsOk r130bT.2 r130bB = true := by kernel_rfl
def r62T : Bool × List (List Nat × List Nat) := (true, [([], []), ([], []), ([1], [1]), ([2], [2]), ([3], [3]), ([0, 4], [0, 4]), ([], []), ([6], [6]), ([7], [7]), ([8], [8]), ([], []), ([10], [10]), ([11], [11]), ([12], [12]), ([5, 9, 13], [5, 9, 13]), ([14], [14]), ([15, 5, 0, 1, 2, 3, 4, 5, 6, 7, 8, 9, 10, 11, 12, 13, 14, 15], [15])])
def r62B : List Nat := [0, 0, 2, 6, 14, 31, 0, 64, 192, 448, 0, 1024, 3072, 7168, 16383, 32767, 65535]
theorem r62Tab : rtab .any (opsOf Try.f62 3) = r62T := by kernel_rfl
theorem r62Bits : waitsOk r62T.2 r62B = true := by kernel_rfl
theorem infoOf194 : (Try.prog.info? 194).map (fun i => (i.zero, i.size, i.bytes)) = some (some (.agg #[.slice none 0 0, .pointer none, .bool false, .bool false, .int .i64 0]), 5, 48) := by kernel_rfl
theorem rentRow_one (l : List Ent) : ∀ u ∈ rentRow l, u.oneCell' = true := by
  intro u hu
  obtain ⟨e, _, hu⟩ := List.mem_flatMap.1 hu
  simp only [rentCells, List.mem_cons, List.not_mem_nil, or_false] at hu
  rcases hu with rfl | rfl | rfl | rfl | rfl <;> rfl
theorem rentRow_set2 (l : List Ent) (i k1 k2 : Nat) (f : Ent → Ent) (v1 v2 : Value) (hi : i < l.length) (h1 : k1 < 5) (h2 : k2 < 5) (hf : ∀ e, rentCells (f e) = ((rentCells e).set k1 v1).set k2 v2) :
    ((rentRow l).set (5 * i + k1) v1).set (5 * i + k2) v2 = rentRow (l.modify i f) := by
  induction l generalizing i with
  | nil => simp at hi
  | cons e l ih =>
    have e1 : rentRow (e :: l) = rentCells e ++ rentRow l := rfl
    have e5 : (rentCells e).length = 5 := rfl
    rw [e1]
    cases i with
    | zero =>
      rw [List.modify_zero_cons]
      have e2 : rentRow (f e :: l) = rentCells (f e) ++ rentRow l := rfl
      rw [e2, hf, List.set_append_left _ _ (by omega), List.set_append_left _ _ (by rw [List.length_set]; omega)]
      simp
    | succ i =>
      rw [List.modify_succ_cons]
      have e2 : rentRow (e :: l.modify i f) = rentCells e ++ rentRow (l.modify i f) := rfl
      rw [e2, ← ih i (by simpa using hi), List.set_append_right _ _ (by omega), List.set_append_right _ _ (by omega)]
      congr 3 <;> omega
theorem rentRow_take (l : List Ent) (i : Nat) (k : Int) (hk : 0 ≤ k) (hi : i < l.length) : ((rentRow l).set (5 * i + 2) (.bool false)).set (5 * i + 4) (.int .i64 k) = rentRow (l.modify i (takeE k)) :=
  rentRow_set2 l i 2 4 (takeE k) _ _ hi (by omega) (by omega) fun e => by
    have : waitsB (takeE k e) = false := by unfold waitsB takeE; simp; omega
    unfold rentCells
    rw [this]
    rfl
theorem rentRow_gone (l : List Ent) (i : Nat) (hi : i < l.length) : ((rentRow l).set (5 * i + 3) (.bool true)).set (5 * i + 2) (.bool false) = rentRow (l.modify i goneE) :=
  rentRow_set2 l i 3 2 goneE _ _ hi (by omega) (by omega) fun e => rfl
section
variable {base : Nat} {w w' : World} {rs : Nat} {s : Sto} {A : Option Addr} {c : Nat}
/-- A store's own block written: all else is kept. -/
theorem RKeeps.set {a : World} (h : RKeeps a w) {p : Addr} (hp : ∃ cs fr, w.heap[p.block]? = some (.cells cs 190 fr) ∨ w.heap[p.block]? = some (.cells cs 194 fr)) (v : Value) : RKeeps a (w.setCell p v) := fun g o hg ho => by
  have e := h g o hg ho
  refine (heap_setCell_other w p g v (fun e2 => ?_)).trans e
  obtain ⟨cs, fr, hc⟩ := hp
  subst e2
  rw [e, hg] at hc
  rcases hc with hc | hc
  · injection hc with hc; exact (ho cs fr).1 hc
  · injection hc with hc; exact (ho cs fr).2 hc
theorem setCell_type {p : Addr} {g : Nat} {cs : Array Value} {t : TypeId} {fr : Nat × Nat} (h : w.heap[g]? = some (.cells cs t fr)) (v : Value) (hs : p.spot = none) (hf : fr = (0, 0)) : ∃ cs', (w.setCell p v).heap[g]? = some (.cells cs' t fr) := by
  by_cases e : g = p.block
  · subst e
    subst hf
    obtain ⟨b, o, sp⟩ := p
    have hs : sp = none := hs
    subst hs
    exact ⟨_, heap_setCell_same w b o cs t v h⟩
  · exact ⟨cs, (heap_setCell_other w p g v e).trans h⟩
/-- An entry is marked as taken, and counted. -/
theorem RStoreIn.take_done {pe i : Nat} (h : RStoreIn base w rs s (some ⟨pe, 0, none⟩) c) (hi : i < s.ents.length) (hw : waitsB (entAt s.ents i) = true) :
    RStoreAt base (((w.setCell ⟨pe, i * 5 + 2, none⟩ (.bool false)).setCell ⟨pe, i * 5 + 4, none⟩ (.int .i64 s.tk)).setCell ⟨rs, 2, none⟩ (.int .i64 (s.tk + 1))) rs (takeS s i) ∧
      RKeeps w (((w.setCell ⟨pe, i * 5 + 2, none⟩ (.bool false)).setCell ⟨pe, i * 5 + 4, none⟩ (.int .i64 s.tk)).setCell ⟨rs, 2, none⟩ (.int .i64 (s.tk + 1))) ∧
      Below base w (((w.setCell ⟨pe, i * 5 + 2, none⟩ (.bool false)).setCell ⟨pe, i * 5 + 4, none⟩ (.int .i64 s.tk)).setCell ⟨rs, 2, none⟩ (.int .i64 (s.tk + 1))) := by
  obtain ⟨hbp, cur, hcur⟩ := own_row h.own (g := pe) rfl
  have hne : rs ≠ pe := fun e => by
    have h1 := h.row
    unfold Row at h1
    rw [e, hcur] at h1
    simp only [Option.some.injEq, Obj.cells.injEq] at h1
    exact absurd h1.2.1 (by decide)
  have hk1 : RKeeps w (w.setCell ⟨pe, i * 5 + 2, none⟩ (.bool false)) := (RKeeps.refl w).set (p := ⟨pe, i * 5 + 2, none⟩) ⟨cur, (0, 0), .inr hcur⟩ _
  obtain ⟨cur2, hcur2⟩ := setCell_type (p := ⟨pe, i * 5 + 2, none⟩) hcur (.bool false) rfl rfl
  have hk2 := hk1.set (p := ⟨pe, i * 5 + 4, none⟩) ⟨cur2, (0, 0), .inr hcur2⟩ (.int .i64 s.tk)
  have r1 : Row ((w.setCell ⟨pe, i * 5 + 2, none⟩ (.bool false)).setCell ⟨pe, i * 5 + 4, none⟩ (.int .i64 s.tk)) rs 190 [.slice (some ⟨pe, 0, none⟩) s.ents.length c, .bool s.last, .int .i64 s.tk] :=
    (h.row.far (p := ⟨pe, i * 5 + 2, none⟩) hne _).far (p := ⟨pe, i * 5 + 4, none⟩) hne _
  have hk3 := hk2.set (p := ⟨rs, 2, none⟩) ⟨_, (0, 0), .inl r1⟩ (.int .i64 (s.tk + 1))
  have htk := h.ok.tk_le
  have ho := own_set (own_set h.own (i * 5 + 2) (.bool false)) (i * 5 + 4) (.int .i64 s.tk)
  rw [Nat.mul_comm i 5, rentRow_take s.ents i s.tk htk.1 hi, Nat.mul_comm 5 i] at ho
  refine ⟨⟨some ⟨pe, 0, none⟩, c, ?_, ?_, fun e he => ?_, takeS_ok h.ok hi hw, h.low⟩, hk3, ((((Below.refl base w).setCell (p := ⟨pe, i * 5 + 2, none⟩) hbp _).setCell (p := ⟨pe, i * 5 + 4, none⟩) hbp _).setCell (p := ⟨rs, 2, none⟩) h.low _)⟩
  · rw [takeS_length]; exact r1.set 2 _
  · rw [takeS_length]
    exact own_keep ho fun g hg => heap_setCell_other _ ⟨rs, 2, none⟩ g _ (fun e => by
      have hg2 : pe = g := by simpa [Value.ownBlock] using hg
      have e : g = rs := e
      exact hne (by rw [hg2, e]))
  · unfold takeS at he
    simp only at he
    obtain ⟨j, hj, hje⟩ := List.getElem_of_mem he
    rw [List.length_modify] at hj
    have h2 := (h.entOk j hj).rkeeps hk3
    rw [entAt_eq hj] at h2
    rw [← hje, List.getElem_modify]
    split
    · exact ⟨h2.bytes, h2.key, h2.zone, h2.good, h2.len⟩
    · exact h2
end
set_option maxRecDepth 100000 in
set_option maxHeartbeats 1000000 in
theorem rtake_none {base : Nat} {rs : Nat} {s : Sto} (w : World) (h : RStoreAt base w rs s) (he : waitS s = []) :
    Calls Try.prog 130 #[.pointer (some ⟨rs, 0, none⟩)] w fun e w' => e = .returned (.tuple #[.int .i64 0, .bool false]) ∧ New w w' := by
  have hw := rwaiting_any w h
  rw [he] at hw
  have HW := Lib.hid hw
  clear hw h
  go_enter Try.func130, Try.ntmps130
  go_wp2_with fail
  refine HW.out.mono ?_
  rintro e w1 ⟨v, rfl, ho, hn⟩
  obtain ⟨A, c, hv⟩ := own_form ho
  subst hv
  clear ho
  simp only [List.length_nil]
  go_wp2_with fail
  go_ret2
  exact ⟨rfl, hn⟩
set_option maxRecDepth 100000 in
set_option maxHeartbeats 4000000 in
theorem rtake_some {base : Nat} {rs : Nat} {s : Sto} (w : World) (h : RStoreAt base w rs s) (hb : base ≤ w.heap.size) {i : Nat} {r : List Nat} (he : waitS s = i :: r) :
    Calls Try.prog 130 #[.pointer (some ⟨rs, 0, none⟩)] w fun e w' => e = .returned (.tuple #[.int .i64 i, .bool true]) ∧ RStoreAt base w' rs (takeS s i) ∧ RKeeps w w' ∧ Below base w w' := by
  have hw := rwaiting_any w h
  obtain ⟨hi, hwi⟩ := waitS_head he
  have hget : (nats (waitS s))[0]? = some (.int .i64 i) := by rw [he]; rfl
  have hwl := waitS_le s
  obtain ⟨q, hq⟩ : ∃ q, (waitS s).length = q := ⟨_, rfl⟩
  have hq0 : 0 < q := by rw [← hq, he]; exact Nat.succ_pos _
  rw [hq] at hw hwl
  have HW := Lib.hid hw
  have HG := Lib.hid hget
  have HH := Lib.hid h
  have HWI := Lib.hid hwi
  obtain ⟨A, c, h⟩ := h
  have hfew := h.ok.few
  have htk := h.ok.tk_le
  obtain ⟨L, hL⟩ : ∃ L, s.ents.length = L := ⟨_, rfl⟩
  obtain ⟨tk, htke⟩ : ∃ tk, s.tk = tk := ⟨_, rfl⟩
  have HL := Lib.hid hL
  have HTK := Lib.hid htke
  obtain ⟨pe, hA, _⟩ := h.ent i hi
  subst hA
  have HI := Lib.hid h
  rw [hL] at hfew hi htk hwl
  rw [htke] at htk
  have hiz : (i : Int) < L := by omega
  have hwtk : IntKind.i64.wrap (tk + 1) = tk + 1 := by rw [IntKind.wrap_i64]; omega
  clear hw hget hwi h hL htke he hq
  go_enter Try.func130, Try.ntmps130
  go_wp2_with fail
  refine HW.out.mono ?_
  rintro e wr ⟨v, rfl, ho, hn⟩
  obtain ⟨Aw, cw, hv⟩ := own_form ho
  subst hv
  obtain ⟨gw, hgw, _, _, hcw, _⟩ := own_cell ho (by have := (List.getElem?_eq_some_iff.1 HG.out).1; exact this)
  subst hgw
  have HO := Lib.hid ho
  have HN := Lib.hid hn
  have hIr := HI.out.keep_new hn
  have rdW : ∀ W : World, W.ownsRow w.heap.size 3 1 (.slice (some ⟨gw, 0, none⟩) q cw) q (nats (waitS s)) → W.cell? ⟨gw, 0, none⟩ = some (.int .i64 i) := fun W hW => by
    obtain ⟨g', hg', _, _, hc, _⟩ := own_cell hW (by have := (List.getElem?_eq_some_iff.1 HG.out).1; exact this)
    cases hg'
    exact hc 0 _ HG.out
  have HRD := Lib.hid rdW
  have HC0 := Lib.hid (fun W (hW : New wr W) => (show W.cell? ⟨rs, 0, none⟩ = some (.slice (some ⟨pe, 0, none⟩) L c) from by
    have h1 := (hIr.keep_new hW).cells.1
    rw [HL.out] at h1; exact h1))
  have HC1 := Lib.hid (fun W (hW : New wr W) => rdW W (own_new ho hW))
  have HF0 := Lib.hid (fun W (hW : New wr W) => (show W.frozen? ⟨pe, i * 5 + 2, none⟩ = false ∧ ∃ u, W.cell? ⟨pe, i * 5 + 2, none⟩ = some u from by
    obtain ⟨pe', hp', _, _, _, _, e2, _, _, hfr⟩ := (hIr.keep_new hW).ent i (by rw [HL.out]; exact hi)
    cases hp'
    exact ⟨hfr _, _, e2⟩))
  have HIR := Lib.hid hIr
  clear hcw hIr rdW ho hn
  go_wp2_with fail
  refine start_ (n := 10) (S := fun W => New wr W) (ds := [9]) #[false, false, false, false, false, false, false, false, false, false] (by kernel_rfl) rfl rfl (New.refl wr).drew (fun hHeld => ?_); refine with_tabW r130aTab r130aBits (fun HT_ HW_ => ?_)
  generalize wr.drew = wd at hHeld ⊢
  refine pure_ (i := 0) (N := some 10) (v := ?_) (a' := ?_) #[true, false, false, false, false, false, false, false, false, false] rfl rfl (any_of HT_.out (by kernel_rfl)) (fun _ _ _ h => h) (Or.inl ⟨by rfl, ?_⟩) ?_ ?_
  rotate_left
  · intro w'
    go_simp
    with_reducible rfl
  rotate_left
  · simp only [Act.put, List.setIfInBounds_toArray, List.set_cons_zero, List.set_cons_succ]
    rfl
  refine pure_ (i := 1) (N := some 11) (v := ?_) (a' := ?_) #[true, true, false, false, false, false, false, false, false, false] rfl rfl (any_of HT_.out (by kernel_rfl)) (fun _ _ _ h => h) (Or.inl ⟨by rfl, ?_⟩) ?_ ?_
  rotate_left
  · intro w'
    go_simp
    with_reducible rfl
  rotate_left
  · simp only [Act.put, List.setIfInBounds_toArray, List.set_cons_zero, List.set_cons_succ]
    rfl
  refine pure_ (i := 2) (N := some 12) (v := ?_) (a' := ?_) #[true, true, true, false, false, false, false, false, false, false] rfl rfl (any_of HT_.out (by kernel_rfl)) (fun _ _ _ h => h) (Or.inl ⟨by rfl, ?_⟩) ?_ ?_
  rotate_left
  · intro w'
    go_simp
    with_reducible rfl
  rotate_left
  · simp only [Act.put, List.setIfInBounds_toArray, List.set_cons_zero, List.set_cons_succ]
    rfl
  refine pure_ (i := 4) (N := some 14) (v := ?_) (a' := ?_) #[true, true, true, false, true, false, false, false, false, false] rfl rfl (any_of HT_.out (by kernel_rfl)) (fun _ _ _ h => h) (Or.inl ⟨by rfl, ?_⟩) ?_ ?_
  rotate_left
  · intro w'
    go_simp
    with_reducible rfl
  rotate_left
  · simp only [Act.put, List.setIfInBounds_toArray, List.set_cons_zero, List.set_cons_succ]
    rfl
  refine pure_ (i := 5) (N := some 15) (v := ?_) (a' := ?_) #[true, true, true, false, true, true, false, false, false, false] rfl rfl (any_of HT_.out (by kernel_rfl)) (fun _ _ _ h => h) (Or.inl ⟨by rfl, ?_⟩) ?_ ?_
  rotate_left
  · intro w'
    go_simp
    with_reducible rfl
  rotate_left
  · simp only [Act.put, List.setIfInBounds_toArray, List.set_cons_zero, List.set_cons_succ]
    rfl
  refine take_ (i := 3) (N := some 13) (v := ?_) (a' := ?_) #[true, true, true, true, true, true, false, false, false, false] rfl rfl (take_ofW HT_.out HW_.out (by kernel_rfl)) (fun _ _ _ h => h) (Or.inl ⟨by rfl, ?_⟩) hHeld ?_ ?_
  rotate_left
  · intro w' hkt
    have s0 := HC0.out w' hkt
    have s1 := HC1.out w' hkt
    go_simp
    with_reducible rfl
  rotate_left
  · simp only [Act.put, List.setIfInBounds_toArray, List.set_cons_zero, List.set_cons_succ]
    rfl
  refine take_ (i := 6) (N := some 16) (v := ?_) (a' := ?_) #[true, true, true, true, true, true, true, false, false, false] rfl rfl (take_ofW HT_.out HW_.out (by kernel_rfl)) (fun _ _ _ h => h) (Or.inl ⟨by rfl, ?_⟩) hHeld ?_ ?_
  rotate_left
  · intro w' hkt
    have s0 := HC0.out w' hkt
    have s1 := HC1.out w' hkt
    go_simp
    with_reducible rfl
  rotate_left
  · simp only [Act.put, List.setIfInBounds_toArray, List.set_cons_zero, List.set_cons_succ]
    rfl
  refine pure_ (i := 7) (N := some 17) (v := ?_) (a' := ?_) #[true, true, true, true, true, true, true, true, false, false] rfl rfl (any_of HT_.out (by kernel_rfl)) (fun _ _ _ h => h) (Or.inl ⟨by rfl, ?_⟩) ?_ ?_
  rotate_left
  · intro w'
    go_simp
    with_reducible rfl
  rotate_left
  · simp only [Act.put, List.setIfInBounds_toArray, List.set_cons_zero, List.set_cons_succ]
    rfl
  refine pure_ (i := 8) (N := some 18) (v := ?_) (a' := ?_) #[true, true, true, true, true, true, true, true, true, false] rfl rfl (any_of HT_.out (by kernel_rfl)) (fun _ _ _ h => h) (Or.inl ⟨by rfl, ?_⟩) ?_ ?_
  rotate_left
  · intro w'
    go_simp
    with_reducible rfl
  rotate_left
  · simp only [Act.put, List.setIfInBounds_toArray, List.set_cons_zero, List.set_cons_succ]
    rfl
  obtain ⟨fz0, uz0, fz1⟩ := HF0.out wd hHeld
  refine last_ (i := 9) (N := none) #[true, true, true, true, true, true, true, true, true, true] rfl rfl (one_of HT_.out (by kernel_rfl)) (by decide) (fun K hK => ?_)
  refine skip_ (w1 := wd.setCell ⟨pe, i * 5 + 2, none⟩ (.bool false)) (by rfl) rfl (by go_simp) ?_
  refine hK.out _ _ ?_
  clear hK K
  refine done_ (done_of HT_.out (by kernel_rfl)) ?_
  have HHD := Lib.hid hHeld
  have hIA := HIR.out.keep_new hHeld
  have hrs : rs ≠ pe := fun e => by
    have h1 := hIA.row
    obtain ⟨_, cur, h2⟩ := own_row hIA.own (g := pe) rfl
    unfold Row at h1
    rw [e, h2] at h1
    simp only [Option.some.injEq, Obj.cells.injEq] at h1
    exact absurd h1.2.1 (by decide)
  have hoA : (wd.setCell ⟨pe, i * 5 + 2, none⟩ (.bool false)).ownsRow w.heap.size 3 1 (.slice (some ⟨gw, 0, none⟩) q cw) q (nats (waitS s)) := own_keep (own_new HO.out hHeld) fun g hg => heap_setCell_other _ ⟨pe, i * 5 + 2, none⟩ g _ (fun e => by
    have e : g = pe := e
    subst e
    obtain ⟨_, cur, h2⟩ := own_row hIA.own (g := g) rfl
    exact own_ne (own_new HO.out hHeld) h2 (by decide) hg)
  have hrowA := hIA.row.far (p := ⟨pe, i * 5 + 2, none⟩) hrs (.bool false)
  obtain ⟨_, cur, hcur⟩ := own_row hIA.own (g := pe) rfl
  obtain ⟨cur2, hcur2⟩ := setCell_type (p := ⟨pe, i * 5 + 2, none⟩) hcur (.bool false) rfl rfl
  have e4A : ∃ u, (wd.setCell ⟨pe, i * 5 + 2, none⟩ (.bool false)).cell? ⟨pe, i * 5 + 4, none⟩ = some u := by
    have ho2 := own_set hIA.own (i * 5 + 2) (.bool false)
    obtain ⟨g', hg', _, _, hc, _⟩ := own_cell ho2 (by rw [List.length_set, rentRow_length, HL.out]; omega)
    cases hg'
    have hlen : i * 5 + 4 < ((rentRow s.ents).set (i * 5 + 2) (.bool false)).length := by rw [List.length_set, rentRow_length, HL.out]; omega
    exact ⟨_, hc (i * 5 + 4) _ (List.getElem?_eq_getElem hlen)⟩
  have HRD2 := Lib.hid hoA
  obtain ⟨wa, hwa⟩ : ∃ wa, wd.setCell ⟨pe, i * 5 + 2, none⟩ (.bool false) = wa := ⟨_, rfl⟩
  rw [hwa] at hoA hrowA hcur2 e4A ⊢
  have HWA := Lib.hid hwa
  have HC0b := Lib.hid (fun W (hW : New wa W) => (show W.cell? ⟨rs, 0, none⟩ = some (.slice (some ⟨pe, 0, none⟩) L c) from by
    have h1 := (hW.row hrowA).cell 0
    rw [HL.out] at h1; exact h1))
  have HC2b := Lib.hid (fun W (hW : New wa W) => (show W.cell? ⟨rs, 2, none⟩ = some (.int .i64 tk) from by
    have h1 := (hW.row hrowA).cell 2
    rw [HTK.out] at h1; exact h1))
  have HC1b := Lib.hid (fun W (hW : New wa W) => HRD.out W (own_new hoA hW))
  have HF0b := Lib.hid (fun W (hW : New wa W) => (show W.frozen? ⟨pe, i * 5 + 4, none⟩ = false ∧ ∃ u, W.cell? ⟨pe, i * 5 + 4, none⟩ = some u from by
    have h1 := hW.block pe (Array.getElem?_eq_some_iff.1 hcur2).1 (fun e => e)
    obtain ⟨u, hu⟩ := e4A
    exact ⟨frozen_of_row W pe _ cur2 194 (h1.trans hcur2), u, (World.cell?_of_block (w := wa) h1).trans hu⟩))
  clear hoA hrowA hcur hcur2 e4A hIA hwa hHeld
  go_upto_region 5 with fail
  refine start_ (n := 14) (S := fun W => New wa W) (ds := [13]) #[false, false, false, false, false, false, false, false, false, false, false, false, false, false] (by kernel_rfl) rfl rfl (New.refl wa).drew (fun hHeld => ?_); refine with_tabW r130bTab r130bBits (fun HT_ HW_ => ?_)
  have HDB0 : Hid (Drew wa wa.drew) := ⟨1, rfl⟩
  revert HDB0
  generalize wa.drew = wb at hHeld ⊢
  intro HDB
  refine pure_ (i := 0) (N := some 19) (v := ?_) (a' := ?_) #[true, false, false, false, false, false, false, false, false, false, false, false, false, false] rfl rfl (any_of HT_.out (by kernel_rfl)) (fun _ _ _ h => h) (Or.inl ⟨by rfl, ?_⟩) ?_ ?_
  rotate_left
  · intro w'
    go_simp
    with_reducible rfl
  rotate_left
  · simp only [Act.put, List.setIfInBounds_toArray, List.set_cons_zero, List.set_cons_succ]
    rfl
  refine pure_ (i := 1) (N := some 20) (v := ?_) (a' := ?_) #[true, true, false, false, false, false, false, false, false, false, false, false, false, false] rfl rfl (any_of HT_.out (by kernel_rfl)) (fun _ _ _ h => h) (Or.inl ⟨by rfl, ?_⟩) ?_ ?_
  rotate_left
  · intro w'
    go_simp
    with_reducible rfl
  rotate_left
  · simp only [Act.put, List.setIfInBounds_toArray, List.set_cons_zero, List.set_cons_succ]
    rfl
  refine pure_ (i := 2) (N := some 21) (v := ?_) (a' := ?_) #[true, true, true, false, false, false, false, false, false, false, false, false, false, false] rfl rfl (any_of HT_.out (by kernel_rfl)) (fun _ _ _ h => h) (Or.inl ⟨by rfl, ?_⟩) ?_ ?_
  rotate_left
  · intro w'
    go_simp
    with_reducible rfl
  rotate_left
  · simp only [Act.put, List.setIfInBounds_toArray, List.set_cons_zero, List.set_cons_succ]
    rfl
  refine pure_ (i := 4) (N := some 23) (v := ?_) (a' := ?_) #[true, true, true, false, true, false, false, false, false, false, false, false, false, false] rfl rfl (any_of HT_.out (by kernel_rfl)) (fun _ _ _ h => h) (Or.inl ⟨by rfl, ?_⟩) ?_ ?_
  rotate_left
  · intro w'
    go_simp
    with_reducible rfl
  rotate_left
  · simp only [Act.put, List.setIfInBounds_toArray, List.set_cons_zero, List.set_cons_succ]
    rfl
  refine pure_ (i := 5) (N := some 24) (v := ?_) (a' := ?_) #[true, true, true, false, true, true, false, false, false, false, false, false, false, false] rfl rfl (any_of HT_.out (by kernel_rfl)) (fun _ _ _ h => h) (Or.inl ⟨by rfl, ?_⟩) ?_ ?_
  rotate_left
  · intro w'
    go_simp
    with_reducible rfl
  rotate_left
  · simp only [Act.put, List.setIfInBounds_toArray, List.set_cons_zero, List.set_cons_succ]
    rfl
  refine pure_ (i := 7) (N := some 26) (v := ?_) (a' := ?_) #[true, true, true, false, true, true, false, true, false, false, false, false, false, false] rfl rfl (any_of HT_.out (by kernel_rfl)) (fun _ _ _ h => h) (Or.inl ⟨by rfl, ?_⟩) ?_ ?_
  rotate_left
  · intro w'
    go_simp
    with_reducible rfl
  rotate_left
  · simp only [Act.put, List.setIfInBounds_toArray, List.set_cons_zero, List.set_cons_succ]
    rfl
  refine pure_ (i := 8) (N := some 27) (v := ?_) (a' := ?_) #[true, true, true, false, true, true, false, true, true, false, false, false, false, false] rfl rfl (any_of HT_.out (by kernel_rfl)) (fun _ _ _ h => h) (Or.inl ⟨by rfl, ?_⟩) ?_ ?_
  rotate_left
  · intro w'
    go_simp
    with_reducible rfl
  rotate_left
  · simp only [Act.put, List.setIfInBounds_toArray, List.set_cons_zero, List.set_cons_succ]
    rfl
  refine pure_ (i := 9) (N := some 28) (v := ?_) (a' := ?_) #[true, true, true, false, true, true, false, true, true, true, false, false, false, false] rfl rfl (any_of HT_.out (by kernel_rfl)) (fun _ _ _ h => h) (Or.inl ⟨by rfl, ?_⟩) ?_ ?_
  rotate_left
  · intro w'
    go_simp
    with_reducible rfl
  rotate_left
  · simp only [Act.put, List.setIfInBounds_toArray, List.set_cons_zero, List.set_cons_succ]
    rfl
  refine take_ (i := 3) (N := some 22) (v := ?_) (a' := ?_) #[true, true, true, true, true, true, false, true, true, true, false, false, false, false] rfl rfl (take_ofW HT_.out HW_.out (by kernel_rfl)) (fun _ _ _ h => h) (Or.inl ⟨by rfl, ?_⟩) hHeld ?_ ?_
  rotate_left
  · intro w' hkt
    have s0 := HC0b.out w' hkt
    have s1 := HC1b.out w' hkt
    have s2 := HC2b.out w' hkt
    go_simp
    with_reducible rfl
  rotate_left
  · simp only [Act.put, List.setIfInBounds_toArray, List.set_cons_zero, List.set_cons_succ]
    rfl
  refine take_ (i := 6) (N := some 25) (v := ?_) (a' := ?_) #[true, true, true, true, true, true, true, true, true, true, false, false, false, false] rfl rfl (take_ofW HT_.out HW_.out (by kernel_rfl)) (fun _ _ _ h => h) (Or.inl ⟨by rfl, ?_⟩) hHeld ?_ ?_
  rotate_left
  · intro w' hkt
    have s0 := HC0b.out w' hkt
    have s1 := HC1b.out w' hkt
    have s2 := HC2b.out w' hkt
    go_simp
    with_reducible rfl
  rotate_left
  · simp only [Act.put, List.setIfInBounds_toArray, List.set_cons_zero, List.set_cons_succ]
    rfl
  refine take_ (i := 10) (N := some 29) (v := ?_) (a' := ?_) #[true, true, true, true, true, true, true, true, true, true, true, false, false, false] rfl rfl (take_ofW HT_.out HW_.out (by kernel_rfl)) (fun _ _ _ h => h) (Or.inl ⟨by rfl, ?_⟩) hHeld ?_ ?_
  rotate_left
  · intro w' hkt
    have s0 := HC0b.out w' hkt
    have s1 := HC1b.out w' hkt
    have s2 := HC2b.out w' hkt
    go_simp
    with_reducible rfl
  rotate_left
  · simp only [Act.put, List.setIfInBounds_toArray, List.set_cons_zero, List.set_cons_succ]
    rfl
  refine pure_ (i := 11) (N := some 30) (v := ?_) (a' := ?_) #[true, true, true, true, true, true, true, true, true, true, true, true, false, false] rfl rfl (any_of HT_.out (by kernel_rfl)) (fun _ _ _ h => h) (Or.inl ⟨by rfl, ?_⟩) ?_ ?_
  rotate_left
  · intro w'
    go_simp
    with_reducible rfl
  rotate_left
  · simp only [Act.put, List.setIfInBounds_toArray, List.set_cons_zero, List.set_cons_succ]
    rfl
  refine pure_ (i := 12) (N := some 31) (v := ?_) (a' := ?_) #[true, true, true, true, true, true, true, true, true, true, true, true, true, false] rfl rfl (any_of HT_.out (by kernel_rfl)) (fun _ _ _ h => h) (Or.inl ⟨by rfl, ?_⟩) ?_ ?_
  rotate_left
  · intro w'
    go_simp
    with_reducible rfl
  rotate_left
  · simp only [Act.put, List.setIfInBounds_toArray, List.set_cons_zero, List.set_cons_succ]
    rfl
  obtain ⟨gz0, vz0, gz1⟩ := HF0b.out wb hHeld
  refine last_ (i := 13) (N := none) #[true, true, true, true, true, true, true, true, true, true, true, true, true, true] rfl rfl (one_of HT_.out (by kernel_rfl)) (by decide) (fun K hK => ?_)
  refine skip_ (w1 := wb.setCell ⟨pe, i * 5 + 4, none⟩ (.int .i64 tk)) (by rfl) rfl (by go_simp) ?_
  refine hK.out _ _ ?_
  clear hK K
  refine done_ (done_of HT_.out (by kernel_rfl)) ?_
  -- the worlds: wd, wa = wd.setCell .., wb = wa with draws, then the two cells
  have hnb : Drew wa wb := HDB.out
  obtain ⟨nb, hnb⟩ := hnb
  have hmv : wb.setCell ⟨pe, i * 5 + 4, none⟩ (.int .i64 tk) = ((wd.drewN nb).setCell ⟨pe, i * 5 + 2, none⟩ (.bool false)).setCell ⟨pe, i * 5 + 4, none⟩ (.int .i64 tk) := by
    rw [hnb, ← HWA.out]; rfl
  have hIb := HIR.out.keep_new (HHD.out.drewN nb)
  obtain ⟨t1, t2, t3⟩ := hIb.take_done (by rw [HL.out]; exact hi) HWI.out
  rw [HTK.out] at t1 t2 t3
  rw [hmv]
  have hrw := (hIb.row.far (p := ⟨pe, i * 5 + 2, none⟩) hrs (.bool false)).far (p := ⟨pe, i * 5 + 4, none⟩) hrs (.int .i64 tk)
  rw [HTK.out] at hrw
  have c2 := hrw.cell 2
  have f2 := hrw.free 2
  simp only [List.getElem?_cons_succ, List.getElem?_cons_zero] at c2
  have hoF := own_keep (own_new HO.out (HHD.out.drewN nb)) (w' := (((wd.drewN nb).setCell ⟨pe, i * 5 + 2, none⟩ (.bool false)).setCell ⟨pe, i * 5 + 4, none⟩ (.int .i64 tk)).setCell ⟨rs, 2, none⟩ (.int .i64 (tk + 1))) fun g hg => by
    have hge : g = gw := by have h9 : gw = g := by simpa [Value.ownBlock] using hg
                            exact h9.symm
    subst hge
    have h3 := (own_row (own_new HO.out (HHD.out.drewN nb)) (g := g) rfl).2
    obtain ⟨cur3, h3⟩ := h3
    refine t2.cells h3 (by decide) (by decide)
  have c9 := HRD.out _ hoF
  have T1 := Lib.hid t1
  have T2 := Lib.hid (((HN.out.trans (HHD.out.drewN nb)).rkeeps).trans t2)
  have T3 := Lib.hid (((HN.out.trans (HHD.out.drewN nb)).below hb).trans t3)
  clear t1 t2 t3 hrw hoF hIb hmv hnb hHeld
  go_wp2_with fail
  go_ret2
  exact ⟨rfl, T1.out, T2.out, T3.out⟩
set_option maxRecDepth 100000 in
set_option maxHeartbeats 4000000 in
theorem rfork_any {base : Nat} {rs : Nat} {s : Sto} (w : World) (h : RStoreAt base w rs s) :
    Calls Try.prog 62 #[.pointer (some ⟨rs, 0, none⟩)] w fun e w' => ∃ p, e = .returned (.pointer (some ⟨p, 0, none⟩)) ∧ RStoreAt w.heap.size w' p s ∧ New w w' := by
  obtain ⟨i0, hi0, hz0, hz1, hz2⟩ := info_parts infoOf194
  obtain ⟨A, c, h⟩ := h
  have hfew := h.ok.few
  obtain ⟨h0, h1, h2⟩ := h.cells
  have HI := Lib.hid h
  have HE := Lib.hid (elems_of_own h.own)
  obtain ⟨L, hL⟩ : ∃ L, s.ents.length = L := ⟨_, rfl⟩
  obtain ⟨tk, htke⟩ : ∃ tk, s.tk = tk := ⟨_, rfl⟩
  obtain ⟨lst, hlst⟩ : ∃ lst, s.last = lst := ⟨_, rfl⟩
  have HL := Lib.hid hL
  have HTK := Lib.hid htke
  have HLST := Lib.hid hlst
  have hC : ∀ W, New w W → W.cell? ⟨rs, 0, none⟩ = some (.slice A L c) ∧ W.cell? ⟨rs, 1, none⟩ = some (.bool lst) ∧ W.cell? ⟨rs, 2, none⟩ = some (.int .i64 tk) := fun W hW => by
    obtain ⟨a, b, d⟩ := (h.keep_new hW).cells
    rw [hL] at a; rw [hlst] at b; rw [htke] at d
    exact ⟨a, b, d⟩
  have HC0 := Lib.hid (fun W (hW : New w W) => (hC W hW).1)
  have HC1 := Lib.hid (fun W (hW : New w W) => (hC W hW).2.1)
  have HC2 := Lib.hid (fun W (hW : New w W) => (hC W hW).2.2)
  rw [hL] at hfew
  clear h h0 h1 h2 hC hL htke hlst
  go_enter Try.func62, Try.ntmps62
  go_wp2_with fail
  refine start_ (n := 17) (S := fun W => New w W) (ds := []) #[false, false, false, false, false, false, false, false, false, false, false, false, false, false, false, false, false] (by kernel_rfl) rfl rfl (New.refl w).drew (fun hHeld => ?_); refine with_tabW r62Tab r62Bits (fun HT_ HW_ => ?_)
  generalize w.drew = wd at hHeld ⊢
  have HWD := Lib.hid hHeld.size
  refine pure_ (i := 1) (N := some 6) (v := ?_) (a' := ?_) #[false, true, false, false, false, false, false, false, false, false, false, false, false, false, false, false, false] rfl rfl (any_of HT_.out (by kernel_rfl)) (fun _ _ _ h => h) (Or.inl ⟨by rfl, ?_⟩) ?_ ?_
  rotate_left
  · intro w'
    go_simp
    with_reducible rfl
  rotate_left
  · simp only [Act.put, List.setIfInBounds_toArray, List.set_cons_zero, List.set_cons_succ]
    rfl
  refine pure_ (i := 2) (N := some 7) (v := ?_) (a' := ?_) #[false, true, true, false, false, false, false, false, false, false, false, false, false, false, false, false, false] rfl rfl (any_of HT_.out (by kernel_rfl)) (fun _ _ _ h => h) (Or.inl ⟨by rfl, ?_⟩) ?_ ?_
  rotate_left
  · intro w'
    go_simp
    with_reducible rfl
  rotate_left
  · simp only [Act.put, List.setIfInBounds_toArray, List.set_cons_zero, List.set_cons_succ]
    rfl
  refine pure_ (i := 3) (N := some 8) (v := ?_) (a' := ?_) #[false, true, true, true, false, false, false, false, false, false, false, false, false, false, false, false, false] rfl rfl (any_of HT_.out (by kernel_rfl)) (fun _ _ _ h => h) (Or.inl ⟨by rfl, ?_⟩) ?_ ?_
  rotate_left
  · intro w'
    go_simp
    with_reducible rfl
  rotate_left
  · simp only [Act.put, List.setIfInBounds_toArray, List.set_cons_zero, List.set_cons_succ]
    rfl
  refine pure_ (i := 6) (N := some 11) (v := ?_) (a' := ?_) #[false, true, true, true, false, false, true, false, false, false, false, false, false, false, false, false, false] rfl rfl (any_of HT_.out (by kernel_rfl)) (fun _ _ _ h => h) (Or.inl ⟨by rfl, ?_⟩) ?_ ?_
  rotate_left
  · intro w'
    go_simp
    with_reducible rfl
  rotate_left
  · simp only [Act.put, List.setIfInBounds_toArray, List.set_cons_zero, List.set_cons_succ]
    rfl
  refine pure_ (i := 7) (N := some 12) (v := ?_) (a' := ?_) #[false, true, true, true, false, false, true, true, false, false, false, false, false, false, false, false, false] rfl rfl (any_of HT_.out (by kernel_rfl)) (fun _ _ _ h => h) (Or.inl ⟨by rfl, ?_⟩) ?_ ?_
  rotate_left
  · intro w'
    go_simp
    with_reducible rfl
  rotate_left
  · simp only [Act.put, List.setIfInBounds_toArray, List.set_cons_zero, List.set_cons_succ]
    rfl
  refine pure_ (i := 8) (N := some 13) (v := ?_) (a' := ?_) #[false, true, true, true, false, false, true, true, true, false, false, false, false, false, false, false, false] rfl rfl (any_of HT_.out (by kernel_rfl)) (fun _ _ _ h => h) (Or.inl ⟨by rfl, ?_⟩) ?_ ?_
  rotate_left
  · intro w'
    go_simp
    with_reducible rfl
  rotate_left
  · simp only [Act.put, List.setIfInBounds_toArray, List.set_cons_zero, List.set_cons_succ]
    rfl
  refine pure_ (i := 10) (N := some 15) (v := ?_) (a' := ?_) #[false, true, true, true, false, false, true, true, true, false, true, false, false, false, false, false, false] rfl rfl (any_of HT_.out (by kernel_rfl)) (fun _ _ _ h => h) (Or.inl ⟨by rfl, ?_⟩) ?_ ?_
  rotate_left
  · intro w'
    go_simp
    with_reducible rfl
  rotate_left
  · simp only [Act.put, List.setIfInBounds_toArray, List.set_cons_zero, List.set_cons_succ]
    rfl
  refine pure_ (i := 11) (N := some 16) (v := ?_) (a' := ?_) #[false, true, true, true, false, false, true, true, true, false, true, true, false, false, false, false, false] rfl rfl (any_of HT_.out (by kernel_rfl)) (fun _ _ _ h => h) (Or.inl ⟨by rfl, ?_⟩) ?_ ?_
  rotate_left
  · intro w'
    go_simp
    with_reducible rfl
  rotate_left
  · simp only [Act.put, List.setIfInBounds_toArray, List.set_cons_zero, List.set_cons_succ]
    rfl
  refine pure_ (i := 12) (N := some 17) (v := ?_) (a' := ?_) #[false, true, true, true, false, false, true, true, true, false, true, true, true, false, false, false, false] rfl rfl (any_of HT_.out (by kernel_rfl)) (fun _ _ _ h => h) (Or.inl ⟨by rfl, ?_⟩) ?_ ?_
  rotate_left
  · intro w'
    go_simp
    with_reducible rfl
  rotate_left
  · simp only [Act.put, List.setIfInBounds_toArray, List.set_cons_zero, List.set_cons_succ]
    rfl
  refine take_ (i := 4) (N := some 9) (v := ?_) (a' := ?_) #[false, true, true, true, true, false, true, true, true, false, true, true, true, false, false, false, false] rfl rfl (take_ofW HT_.out HW_.out (by kernel_rfl)) (fun _ _ _ h => h) (Or.inl ⟨by rfl, ?_⟩) hHeld ?_ ?_
  rotate_left
  · intro w' hkt
    have s0 := HC0.out w' hkt
    have s1 := HC1.out w' hkt
    have s2 := HC2.out w' hkt
    go_simp
    with_reducible rfl
  rotate_left
  · simp only [Act.put, List.setIfInBounds_toArray, List.set_cons_zero, List.set_cons_succ]
    rfl
  refine take_ (i := 9) (N := some 14) (v := ?_) (a' := ?_) #[false, true, true, true, true, false, true, true, true, true, true, true, true, false, false, false, false] rfl rfl (take_ofW HT_.out HW_.out (by kernel_rfl)) (fun _ _ _ h => h) (Or.inl ⟨by rfl, ?_⟩) hHeld ?_ ?_
  rotate_left
  · intro w' hkt
    have s0 := HC0.out w' hkt
    have s1 := HC1.out w' hkt
    have s2 := HC2.out w' hkt
    go_simp
    with_reducible rfl
  rotate_left
  · simp only [Act.put, List.setIfInBounds_toArray, List.set_cons_zero, List.set_cons_succ]
    rfl
  refine take_ (i := 13) (N := some 18) (v := ?_) (a' := ?_) #[false, true, true, true, true, false, true, true, true, true, true, true, true, true, false, false, false] rfl rfl (take_ofW HT_.out HW_.out (by kernel_rfl)) (fun _ _ _ h => h) (Or.inl ⟨by rfl, ?_⟩) hHeld ?_ ?_
  rotate_left
  · intro w' hkt
    have s0 := HC0.out w' hkt
    have s1 := HC1.out w' hkt
    have s2 := HC2.out w' hkt
    go_simp
    with_reducible rfl
  rotate_left
  · simp only [Act.put, List.setIfInBounds_toArray, List.set_cons_zero, List.set_cons_succ]
    rfl
  refine one_ (i := 0) (N := some 5) #[true, true, true, true, true, false, true, true, true, true, true, true, true, true, false, false, false] rfl rfl (one_of HT_.out (by kernel_rfl)) (by decide) (fun K hK => ?_)
  refine gives_ (v := .slice (some ⟨wd.heap.size, 0, none⟩) 0 0) (w1 := wd.alloc (.cells #[] 194)) (by rfl) rfl (by go_simp) ?_
  have hHeld0 := hHeld
  refine hK.out _ _ (hHeld0.alloc _) (fun hHeld => ?_)
  clear hK K
  refine norm_ (a' := ?_) ?_ ?_
  rotate_left
  · show Act.put _ (some 5) _ = _
    simp only [Act.put, List.setIfInBounds_toArray, List.set_cons_zero, List.set_cons_succ]
    rfl
  have hel := ((HE.out.new hHeld0 (Nat.le_refl _)).mono hHeld0.size).new ((New.refl wd).alloc (.cells #[] 194)) (Nat.le_refl _)
  obtain ⟨v', w3, hrun, ho3, hg3, hb3⟩ := run_append_elems2 (P := Try.prog) (wd.alloc (.cells #[] 194)) wd.heap.size 188 188 194 i0 (.agg #[.slice none 0 0, .pointer none, .bool false, .bool false, .int .i64 0]) 5 48 Try.underlying188 hi0 hz0 hz1 hz2 rfl (by decide) _ 0 [] (own_empty wd wd.heap.size 194 5 (Nat.le_refl _)) _ _ L c _ hel (by rw [rentRow_length, HL.out, Nat.mul_comm]) (rentRow_one _) (by unfold maxLen; omega) (by omega) (by simp)
  obtain ⟨A8, c8, hv8⟩ := own_form ho3
  subst hv8
  rw [Nat.zero_add] at ho3 hrun
  rw [List.nil_append] at ho3
  have hN3 : New wd w3 := Fr.then ((New.refl wd).alloc (.cells #[] 194)) (Fr.of_grown (S := fun k => Value.ownBlock _ = some k) hg3 (fun k hk _ => hk)) (fun _ _ e => e) (fun k hk e => by have e2 : some wd.heap.size = some k := e; injection e2 with e2; omega)
  have HO3 := Lib.hid ho3
  have HN3 := Lib.hid hN3
  clear hb3 hg3 hel
  refine one_ (i := 5) (N := some 10) #[true, true, true, true, true, true, true, true, true, true, true, true, true, true, false, false, false] rfl rfl (one_of HT_.out (by kernel_rfl)) (by decide) (fun K hK => ?_)
  refine gives_ (v := .slice A8 L c8) (w1 := w3) (by rfl) rfl (exec_app rfl rfl rfl hrun) ?_
  refine hK.out _ _ (hHeld0.trans HN3.out) (fun hHeld => ?_)
  clear hK K
  refine norm_ (a' := ?_) ?_ ?_
  rotate_left
  · show Act.put _ (some 10) _ = _
    simp only [Act.put, List.setIfInBounds_toArray, List.set_cons_zero, List.set_cons_succ]
    rfl
  clear hrun ho3 hN3
  refine pure_ (i := 14) (N := some 19) (v := ?_) (a' := ?_) #[true, true, true, true, true, true, true, true, true, true, true, true, true, true, true, false, false] rfl rfl (any_of HT_.out (by kernel_rfl)) (fun _ _ _ h => h) (Or.inl ⟨by rfl, ?_⟩) ?_ ?_
  rotate_left
  · intro w'
    go_simp
    with_reducible rfl
  rotate_left
  · simp only [Act.put, List.setIfInBounds_toArray, List.set_cons_zero, List.set_cons_succ]
    rfl
  refine one_ (i := 15) (N := some 20) #[true, true, true, true, true, true, true, true, true, true, true, true, true, true, true, true, false] rfl rfl (one_of HT_.out (by kernel_rfl)) (by decide) (fun K hK => ?_)
  refine gives_ (v := .pointer (some ⟨w3.heap.size, 0, none⟩)) (w1 := w3.alloc (.cells #[.slice A8 L c8, .bool lst, .int .i64 tk] 190)) (by rfl) rfl (by go_simp) ?_
  have hHeld1 := hHeld
  refine hK.out _ _ (hHeld1.alloc _) (fun hHeld => ?_)
  clear hK K
  refine norm_ (a' := ?_) ?_ ?_
  rotate_left
  · show Act.put _ (some 20) _ = _
    simp only [Act.put, List.setIfInBounds_toArray, List.set_cons_zero, List.set_cons_succ]
    rfl
  refine pure_ (i := 16) (N := some 2) (v := ?_) (a' := ?_) #[true, true, true, true, true, true, true, true, true, true, true, true, true, true, true, true, true] rfl rfl (any_of HT_.out (by kernel_rfl)) (fun _ _ _ h => h) (Or.inl ⟨by rfl, ?_⟩) ?_ ?_
  rotate_left
  · intro w'
    go_simp
    with_reducible rfl
  rotate_left
  · simp only [Act.put, List.setIfInBounds_toArray, List.set_cons_zero, List.set_cons_succ]
    rfl
  refine done_ (done_of HT_.out (by kernel_rfl)) ?_
  have HHD := Lib.hid hHeld1
  clear hHeld hHeld0 hHeld1
  go_wp2_with fail
  go_ret
  refine ⟨_, rfl, ⟨A8, c8, ?_, ?_, fun e he => ?_, HI.out.ok, HHD.out.size⟩, HHD.out.alloc _⟩
  · rw [HL.out, HTK.out, HLST.out]; exact Row.new w3 190 [.slice A8 L c8, .bool lst, .int .i64 tk]
  · rw [HL.out]
    have h1 := own_new HO3.out ((New.refl w3).alloc (.cells #[.slice A8 L c8, .bool lst, .int .i64 tk] 190))
    exact own_lower h1 HWD.out
  · exact (HI.out.ents e he).keeps (HHD.out.alloc _).keeps
end Go.Proofs.Ytapfihlgemejiaa
