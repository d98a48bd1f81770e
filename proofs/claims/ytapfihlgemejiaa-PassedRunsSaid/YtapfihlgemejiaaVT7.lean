/- passed.Store.Fork: another store with the same entries. -/
import Derived.Test.YtapfihlgemejiaaVT6
import Derived.Test.YtapfihlgemejiaaVT4
import Derived.Maps.RangeRun
namespace Go.Proofs.Ytapfihlgemejiaa
open Go.RowKit Go.ChangeMaps Go.Proofs.YtapfihlgemejiaaW.PrintLast
def r59aT : Bool × List (List Nat × List Nat) := (true, [([], []), ([0], [0]), ([1], [1]), ([2], [2]), ([], []), ([4], [4]), ([5], [5]), ([6], [6]), ([7], [7]), ([], []), ([], []), ([10], [10]), ([11], [11]), ([12], [12]), ([3, 8, 9, 13], [3, 8, 9, 13]), ([14], [14]), ([15, 8, 0, 1, 2, 3, 4, 5, 6, 7, 8, 9, 10, 11, 12, 13, 14, 15], [15])])
def r59aB : List Nat := [0, 1, 3, 7, 0, 16, 48, 112, 240, 0, 0, 1024, 3072, 7168, 16383, 32767, 65535]
theorem r59aTab : rtab .any (opsOf Try.f59 3) = r59aT := by kernel_rfl
theorem r59aBits : waitsOk r59aT.2 r59aB = true := by kernel_rfl
def r59bT : Bool × List (List Nat × List Nat) := (true, [([], []), ([0], [0]), ([1], [1]), ([2], [2]), ([], []), ([], []), ([5], [5]), ([3, 4, 6, 6, 0, 1, 2, 3, 4, 5, 6], [3, 4, 6])])
def r59bB : List Nat := [0, 1, 3, 7, 0, 0, 32, 127]
theorem r59bTab : rtab .any (opsOf Try.f59 7) = r59bT := by kernel_rfl
theorem r59bBits : waitsOk r59bT.2 r59bB = true := by kernel_rfl
/-- Whatever shows cells shows them still. -/
def KeepC (w w' : World) : Prop := ∀ (g : Nat) (cs : Array Value) (t : TypeId) (fr : Nat × Nat), w.heap[g]? = some (Obj.cells cs t fr) → w'.heap[g]? = w.heap[g]?
theorem KeepC.keeps {w w' : World} (h : KeepC w w') : Keeps w w' := fun g cs t fr hg _ _ => h g cs t fr hg
theorem KeepC.trans {a b c : World} (h : KeepC a b) (k : KeepC b c) : KeepC a c := fun g cs t fr hg => by
  have e := h g cs t fr hg
  exact (k g cs t fr (e.trans hg)).trans e
theorem New.keepC {a b : World} (h : New a b) : KeepC a b := fun g _ _ _ hg => h.block g (Array.getElem?_eq_some_iff.1 hg).1 (fun e => e)
theorem At.keepC {a b : World} {g : Nat} (h : At g a b) {o : Obj} (ho : a.heap[g]? = some o) (hn : ∀ cs t fr, o ≠ .cells cs t fr) : KeepC a b := fun k cs t fr hk => h.block k (Array.getElem?_eq_some_iff.1 hk).1 (fun e => by
  have e : k = g := e
  subst e
  rw [ho] at hk; injection hk with hk; exact hn cs t fr hk)
theorem KeepC.row {w w' : World} {g : Nat} {t : TypeId} {cs : List Value} (h : KeepC w w') (hr : Row w g t cs) : Row w' g t cs := (h g _ t _ hr).trans hr
theorem KeepC.own {w w' : World} {base e size n : Nat} {v : Value} {xs : List Value} (h : KeepC w w') (ho : w.ownsRow base e size v n xs) : w'.ownsRow base e size v n xs :=
  own_keep ho fun g hg => by obtain ⟨_, cur, h2⟩ := own_row ho hg; exact h g _ _ _ h2
theorem setBlock_at {w w1 : World} {r : Nat} {o : Obj} (h : w1 = w ∨ w1 = w.drew) : At r w (setBlock w1 r o) := by
  rcases h with rfl | rfl <;> refine ⟨rfl, rfl, rfl, by simp [setBlock], fun k _ hk => ?_⟩ <;> exact Array.getElem?_setIfInBounds_ne (fun e => hk e.symm)
theorem setBlock_is {w w1 : World} {r : Nat} {o o' : Obj} (h : w1 = w ∨ w1 = w.drew) (hr : w.heap[r]? = some o) : (setBlock w1 r o').heap[r]? = some o' := by
  have hlt := (Array.getElem?_eq_some_iff.1 hr).1
  rcases h with rfl | rfl <;> simp [setBlock, hlt]
theorem bytesOf_any (t : ByteArray) : ∃ key, Bytes key ∧ strOfNums key = t := by
  refine ⟨t.data.toList.map fun x => (x.toNat : Int), fun x hx => ?_, ?_⟩
  · obtain ⟨y, _, rfl⟩ := List.mem_map.1 hx
    have := y.toNat_lt
    omega
  · rw [ByteArray.ext_iff]
    apply Array.toList_inj.1
    rw [strOfNums_data, List.map_map]
    conv => rhs; rw [← List.map_id t.data.toList]
    apply List.map_congr_left
    intro x _
    simp
/-- The list under a key has been handed on. -/
def Gone_ (es : Array MapEntry) (seen : Array Nat) (key : List Int) : Prop := ∃ e ∈ es.toList, e.key = .string (strOfNums key) ∧ seen.contains e.born = true
/-- How far the lists have been copied. -/
def FRel (w : World) (es : Array MapEntry) (seen : Array Nat) (l2 : List (ByteArray × Value)) (l : List Ent) : Prop :=
  ∀ key, Bytes key → (Gone_ es seen key → ∃ A c, mapFind l2 (strOfNums key) = some (.slice A (idxs l key).length c) ∧ ElemsT w 3 A ((idxs l key).map fun i : Nat => Value.int .i64 i)) ∧ (¬ Gone_ es seen key → mapFind l2 (strOfNums key) = none)
theorem FRel.start (w : World) (es : Array MapEntry) (l : List Ent) : FRel w es #[] [] l := fun key _ => ⟨fun ⟨e, _, _, h⟩ => by simp at h, fun _ => rfl⟩
theorem FRel.keeps {w w' : World} {es : Array MapEntry} {seen : Array Nat} {l2 : List (ByteArray × Value)} {l : List Ent} (h : FRel w es seen l2 l) (hk : Keeps w w') : FRel w' es seen l2 l := fun key hb => ⟨fun hg => by
  obtain ⟨A, c, h1, h2⟩ := (h key hb).1 hg
  exact ⟨A, c, h1, h2.keeps hk (by decide) (by decide)⟩, (h key hb).2⟩
theorem FRel.step {w : World} {es : Array MapEntry} {seen : Array Nat} {l2 : List (ByteArray × Value)} {l : List Ent} {e : MapEntry} {k0 : List Int} {A : Option Addr} {c : Nat} (h : FRel w es seen l2 l) (hn : (es.toList.map (·.born)).Nodup)
    (he : e ∈ es.toList) (hk : e.key = .string (strOfNums k0)) (hb0 : Bytes k0) (hA : ElemsT w 3 A ((idxs l k0).map fun i : Nat => Value.int .i64 i)) :
    FRel w es (seen.push e.born) (mapPut l2 (strOfNums k0) (.slice A (idxs l k0).length c)) l := fun key hb => by
  rw [mapFind_put]
  by_cases hq : key = k0
  · subst hq
    rw [if_pos rfl]
    exact ⟨fun _ => ⟨A, c, rfl, hA⟩, fun hno => absurd ⟨e, he, hk, by rw [contains_push]; simp⟩ hno⟩
  · have hne : ¬ strOfNums key = strOfNums k0 := fun e => hq (strOfNums_inj hb hb0 e)
    rw [if_neg hne]
    have hiff : Gone_ es (seen.push e.born) key ↔ Gone_ es seen key := by
      constructor
      · rintro ⟨x, hx, hkx, hc⟩
        rw [contains_push, Bool.or_eq_true] at hc
        rcases hc with hc | hc
        · exact ⟨x, hx, hkx, hc⟩
        · have hxb : x.born = e.born := beq_iff_eq.1 hc
          have h1 := find_born x es.toList hn hx
          have h2 := find_born e es.toList hn he
          rw [hxb] at h1
          rw [h1] at h2
          injection h2 with h2
          rw [h2, hk] at hkx
          injection hkx with hkx
          exact absurd hkx.symm hne
      · rintro ⟨x, hx, hkx, hc⟩
        exact ⟨x, hx, hkx, by rw [contains_push, hc]; rfl⟩
    rw [hiff]
    exact h key hb
theorem mapFind_mem {l : List (ByteArray × Value)} (hn : (l.map (·.1)).Nodup) {p : ByteArray × Value} (h : p ∈ l) : mapFind l p.1 = some p.2 := by
  induction l with
  | nil => cases h
  | cons x l ih =>
    unfold mapFind
    rw [List.map_cons, List.nodup_cons] at hn
    rw [List.find?_cons]
    rcases List.mem_cons.1 h with rfl | h
    · rw [(bytes_beq p.1 p.1).2 rfl]; rfl
    · rw [bytes_beq_false (fun e => hn.1 (by rw [← e]; exact List.mem_map.2 ⟨p, h, rfl⟩))]
      exact ih hn.2 h
theorem mapFind_none {l : List (ByteArray × Value)} {k : ByteArray} (h : ∀ p ∈ l, p.1 ≠ k) : mapFind l k = none := by
  unfold mapFind
  rw [List.find?_eq_none.2 (fun p hp => by rw [bytes_beq_false (fun e => h p hp e.symm)]; decide)]
  rfl
/-- An entry of the map, as the list of pairs has it. -/
theorem pair_of {es : Array MapEntry} {ml : List (ByteArray × Value)} (he : es.toList.map (fun e => (e.key, e.val)) = ml.map (fun p => (Value.string p.1, p.2))) {e : MapEntry} (h : e ∈ es.toList) : ∃ p ∈ ml, e.key = .string p.1 ∧ e.val = p.2 := by
  have h1 : (e.key, e.val) ∈ es.toList.map (fun e => (e.key, e.val)) := List.mem_map.2 ⟨e, h, rfl⟩
  rw [he] at h1
  obtain ⟨p, hp, e2⟩ := List.mem_map.1 h1
  injection e2 with e3 e4
  exact ⟨p, hp, e3.symm, e4.symm⟩
theorem entry_of {es : Array MapEntry} {ml : List (ByteArray × Value)} (he : es.toList.map (fun e => (e.key, e.val)) = ml.map (fun p => (Value.string p.1, p.2))) {p : ByteArray × Value} (h : p ∈ ml) : ∃ e ∈ es.toList, e.key = .string p.1 ∧ e.val = p.2 := by
  have h1 : (Value.string p.1, p.2) ∈ ml.map (fun p => (Value.string p.1, p.2)) := List.mem_map.2 ⟨p, h, rfl⟩
  rw [← he] at h1
  obtain ⟨e, hp, e2⟩ := List.mem_map.1 h1
  injection e2 with e3 e4
  exact ⟨e, hp, e3, e4⟩
/-- All lists copied: the new map shows what the old one shows. -/
theorem FRel.done_ {w w0 : World} {es : Array MapEntry} {seen : Array Nat} {l2 ml : List (ByteArray × Value)} {l : List Ent} (h : FRel w es seen l2 l) (hof : OfOk w0 ml l)
    (he : es.toList.map (fun e => (e.key, e.val)) = ml.map (fun p => (Value.string p.1, p.2))) (h0 : (leftOf es seen).size = 0) : OfOk w l2 l := fun key hb => by
  by_cases hg : Gone_ es seen key
  · obtain ⟨A, c, h1, h2⟩ := (h key hb).1 hg
    exact ⟨A, c, by rw [h1]; rfl, h2⟩
  · have hnone : mapFind ml (strOfNums key) = none := mapFind_none fun p hp e => by
      obtain ⟨x, hx, hk, _⟩ := entry_of he hp
      refine hg ⟨x, hx, by rw [hk, e], ?_⟩
      cases hc : seen.contains x.born with
      | true => rfl
      | false =>
        have : x ∈ leftOf es seen := by
          unfold leftOf
          exact Array.mem_filter.2 ⟨Array.mem_toList_iff.1 hx, by rw [hc]; rfl⟩
        have := Array.size_pos_of_mem this
        omega
    obtain ⟨A, c, h1, h2⟩ := hof key hb
    rw [hnone] at h1
    have h1 : Value.slice none 0 0 = .slice A (idxs l key).length c := h1
    injection h1 with h3 h4 h5
    refine ⟨none, 0, by rw [(h key hb).2 hg, ← h4]; rfl, ?_⟩
    rw [List.eq_nil_of_length_eq_zero h4.symm]
    exact ElemsT.nil _ _ _
theorem iterSeen_of {w : World} {r : Nat} {a : Option Nat} {b c : Nat} {s : Array Nat} (h : w.heap[r]? = some (.mapIter a b s c)) : w.iterSeen r = s := by
  unfold World.iterSeen; rw [h]
theorem MapAt.ne_iter {w : World} {b r : Nat} {l : List (ByteArray × Value)} {o : Obj} (h : MapAt w b l) (hr : w.heap[r]? = some o) (ho : ∀ es c, o ≠ .map es c) : b ≠ r := fun e => by
  obtain ⟨es, c, h1, _⟩ := h
  rw [e, hr] at h1; injection h1 with h1; exact ho es c h1
set_option maxRecDepth 100000 in
set_option maxHeartbeats 4000000 in
theorem fork_any {base : Nat} {ps : Nat} {s : Sto} (w : World) (h : StoreAt base w ps s) :
    Calls Try.prog 59 #[.pointer (some ⟨ps, 0, none⟩)] w fun e w' => ∃ p, e = .returned (.pointer (some ⟨p, 0, none⟩)) ∧ StoreAt w.heap.size w' p s ∧ New w w' := by
  obtain ⟨A, c, pm, ml, h⟩ := h
  have hfew := h.ok.few
  have HI := Lib.hid h
  have CL : Hid (∀ W, New w W → Calls Try.prog 126 #[.slice A s.ents.length c] W fun e w' => ∃ A' c', e = .returned (.slice A' s.ents.length c') ∧ w'.ownsRow W.heap.size 143 4 (.slice A' s.ents.length c') s.ents.length (entRow s.ents) ∧ New W w') :=
    Lib.hid (fun W hW => clone_ents A c s.ents W ((elems_of_own (h.keep_new hW).own)) hfew)
  obtain ⟨h0, h1, h2, h3⟩ := h.cells
  obtain ⟨L, hL⟩ : ∃ L, s.ents.length = L := ⟨_, rfl⟩
  obtain ⟨tk, htke⟩ : ∃ tk, s.tk = tk := ⟨_, rfl⟩
  obtain ⟨lst, hlst⟩ : ∃ lst, s.last = lst := ⟨_, rfl⟩
  have HL := Lib.hid hL
  have HTK := Lib.hid htke
  have HLST := Lib.hid hlst
  have hC : ∀ W, New w W → W.cell? ⟨ps, 0, none⟩ = some (.bool lst) ∧ W.cell? ⟨ps, 1, none⟩ = some (.slice A L c) ∧ W.cell? ⟨ps, 2, none⟩ = some (.map (some pm)) ∧ W.cell? ⟨ps, 3, none⟩ = some (.int .i64 tk) := fun W hW => by
    obtain ⟨a, b, d, e⟩ := (h.keep_new hW).cells
    rw [hL] at b; rw [hlst] at a; rw [htke] at e
    exact ⟨a, b, d, e⟩
  have HC0 := Lib.hid (fun W (hW : New w W) => (hC W hW).1)
  have HC1 := Lib.hid (fun W (hW : New w W) => (hC W hW).2.1)
  have HC2 := Lib.hid (fun W (hW : New w W) => (hC W hW).2.2.1)
  have HC3 := Lib.hid (fun W (hW : New w W) => (hC W hW).2.2.2)
  rw [hL] at hfew CL
  clear h h0 h1 h2 h3 hC hL htke hlst
  go_enter Try.func59, Try.ntmps59
  go_upto_region 3 with fail
  go_cut [3] (fun c3 wc => ∃ A' c' pm2 p, c3 = .pointer (some ⟨p, 0, none⟩) ∧ Row wc p 141 [.bool lst, .slice A' L c', .map (some pm2), .int .i64 tk] ∧ wc.ownsRow w.heap.size 143 4 (.slice A' L c') L (entRow s.ents) ∧ MapAt wc pm2 [] ∧ w.heap.size ≤ p ∧ w.heap.size ≤ pm2 ∧ New w wc)
  case first =>
    refine start_ (n := 17) (S := fun W => New w W) (ds := []) #[false, false, false, false, false, false, false, false, false, false, false, false, false, false, false, false, false] (by kernel_rfl) rfl rfl (New.refl w).drew (fun hHeld => ?_); refine with_tabW r59aTab r59aBits (fun HT_ HW_ => ?_)
    have HWD : Hid (New w w.drew) := Lib.hid (New.refl w).drew
    generalize w.drew = wd at hHeld HWD ⊢
    refine pure_ (i := 0) (N := some 8) (v := ?_) (a' := ?_) #[true, false, false, false, false, false, false, false, false, false, false, false, false, false, false, false, false] rfl rfl (any_of HT_.out (by kernel_rfl)) (fun _ _ _ h => h) (Or.inl ⟨by rfl, ?_⟩) ?_ ?_
    rotate_left
    · intro w'
      go_simp
      with_reducible rfl
    rotate_left
    · simp only [Act.put, List.setIfInBounds_toArray, List.set_cons_zero, List.set_cons_succ]
      rfl
    refine pure_ (i := 1) (N := some 9) (v := ?_) (a' := ?_) #[true, true, false, false, false, false, false, false, false, false, false, false, false, false, false, false, false] rfl rfl (any_of HT_.out (by kernel_rfl)) (fun _ _ _ h => h) (Or.inl ⟨by rfl, ?_⟩) ?_ ?_
    rotate_left
    · intro w'
      go_simp
      with_reducible rfl
    rotate_left
    · simp only [Act.put, List.setIfInBounds_toArray, List.set_cons_zero, List.set_cons_succ]
      rfl
    refine pure_ (i := 2) (N := some 10) (v := ?_) (a' := ?_) #[true, true, true, false, false, false, false, false, false, false, false, false, false, false, false, false, false] rfl rfl (any_of HT_.out (by kernel_rfl)) (fun _ _ _ h => h) (Or.inl ⟨by rfl, ?_⟩) ?_ ?_
    rotate_left
    · intro w'
      go_simp
      with_reducible rfl
    rotate_left
    · simp only [Act.put, List.setIfInBounds_toArray, List.set_cons_zero, List.set_cons_succ]
      rfl
    refine pure_ (i := 4) (N := some 12) (v := ?_) (a' := ?_) #[true, true, true, false, true, false, false, false, false, false, false, false, false, false, false, false, false] rfl rfl (any_of HT_.out (by kernel_rfl)) (fun _ _ _ h => h) (Or.inl ⟨by rfl, ?_⟩) ?_ ?_
    rotate_left
    · intro w'
      go_simp
      with_reducible rfl
    rotate_left
    · simp only [Act.put, List.setIfInBounds_toArray, List.set_cons_zero, List.set_cons_succ]
      rfl
    refine pure_ (i := 5) (N := some 13) (v := ?_) (a' := ?_) #[true, true, true, false, true, true, false, false, false, false, false, false, false, false, false, false, false] rfl rfl (any_of HT_.out (by kernel_rfl)) (fun _ _ _ h => h) (Or.inl ⟨by rfl, ?_⟩) ?_ ?_
    rotate_left
    · intro w'
      go_simp
      with_reducible rfl
    rotate_left
    · simp only [Act.put, List.setIfInBounds_toArray, List.set_cons_zero, List.set_cons_succ]
      rfl
    refine pure_ (i := 6) (N := some 14) (v := ?_) (a' := ?_) #[true, true, true, false, true, true, true, false, false, false, false, false, false, false, false, false, false] rfl rfl (any_of HT_.out (by kernel_rfl)) (fun _ _ _ h => h) (Or.inl ⟨by rfl, ?_⟩) ?_ ?_
    rotate_left
    · intro w'
      go_simp
      with_reducible rfl
    rotate_left
    · simp only [Act.put, List.setIfInBounds_toArray, List.set_cons_zero, List.set_cons_succ]
      rfl
    refine pure_ (i := 10) (N := some 18) (v := ?_) (a' := ?_) #[true, true, true, false, true, true, true, false, false, false, true, false, false, false, false, false, false] rfl rfl (any_of HT_.out (by kernel_rfl)) (fun _ _ _ h => h) (Or.inl ⟨by rfl, ?_⟩) ?_ ?_
    rotate_left
    · intro w'
      go_simp
      with_reducible rfl
    rotate_left
    · simp only [Act.put, List.setIfInBounds_toArray, List.set_cons_zero, List.set_cons_succ]
      rfl
    refine pure_ (i := 11) (N := some 19) (v := ?_) (a' := ?_) #[true, true, true, false, true, true, true, false, false, false, true, true, false, false, false, false, false] rfl rfl (any_of HT_.out (by kernel_rfl)) (fun _ _ _ h => h) (Or.inl ⟨by rfl, ?_⟩) ?_ ?_
    rotate_left
    · intro w'
      go_simp
      with_reducible rfl
    rotate_left
    · simp only [Act.put, List.setIfInBounds_toArray, List.set_cons_zero, List.set_cons_succ]
      rfl
    refine pure_ (i := 12) (N := some 20) (v := ?_) (a' := ?_) #[true, true, true, false, true, true, true, false, false, false, true, true, true, false, false, false, false] rfl rfl (any_of HT_.out (by kernel_rfl)) (fun _ _ _ h => h) (Or.inl ⟨by rfl, ?_⟩) ?_ ?_
    rotate_left
    · intro w'
      go_simp
      with_reducible rfl
    rotate_left
    · simp only [Act.put, List.setIfInBounds_toArray, List.set_cons_zero, List.set_cons_succ]
      rfl
    refine take_ (i := 3) (N := some 11) (v := ?_) (a' := ?_) #[true, true, true, true, true, true, true, false, false, false, true, true, true, false, false, false, false] rfl rfl (take_ofW HT_.out HW_.out (by kernel_rfl)) (fun _ _ _ h => h) (Or.inl ⟨by rfl, ?_⟩) hHeld ?_ ?_
    rotate_left
    · intro w' hkt
      have s0 := HC0.out w' hkt
      have s1 := HC1.out w' hkt
      have s3 := HC3.out w' hkt
      go_simp
      with_reducible rfl
    rotate_left
    · simp only [Act.put, List.setIfInBounds_toArray, List.set_cons_zero, List.set_cons_succ]
      rfl
    refine take_ (i := 7) (N := some 15) (v := ?_) (a' := ?_) #[true, true, true, true, true, true, true, true, false, false, true, true, true, false, false, false, false] rfl rfl (take_ofW HT_.out HW_.out (by kernel_rfl)) (fun _ _ _ h => h) (Or.inl ⟨by rfl, ?_⟩) hHeld ?_ ?_
    rotate_left
    · intro w' hkt
      have s0 := HC0.out w' hkt
      have s1 := HC1.out w' hkt
      have s3 := HC3.out w' hkt
      go_simp
      with_reducible rfl
    rotate_left
    · simp only [Act.put, List.setIfInBounds_toArray, List.set_cons_zero, List.set_cons_succ]
      rfl
    refine take_ (i := 13) (N := some 21) (v := ?_) (a' := ?_) #[true, true, true, true, true, true, true, true, false, false, true, true, true, true, false, false, false] rfl rfl (take_ofW HT_.out HW_.out (by kernel_rfl)) (fun _ _ _ h => h) (Or.inl ⟨by rfl, ?_⟩) hHeld ?_ ?_
    rotate_left
    · intro w' hkt
      have s0 := HC0.out w' hkt
      have s1 := HC1.out w' hkt
      have s3 := HC3.out w' hkt
      go_simp
      with_reducible rfl
    rotate_left
    · simp only [Act.put, List.setIfInBounds_toArray, List.set_cons_zero, List.set_cons_succ]
      rfl
    refine two_ (i := 8) (j := 9) (Ni := some 16) (Nj := some 17) #[true, true, true, true, true, true, true, true, true, false, true, true, true, true, false, false, false] #[true, true, true, true, true, true, true, true, false, true, true, true, true, true, false, false, false] rfl rfl rfl rfl (two_of HT_.out (by kernel_rfl)) (by decide) (by decide) (fun K hK => ?_) (fun K hK => ?_)
    · refine goes_ Try.func126 (by kernel_rfl) rfl #[.slice A L c] (by rfl) rfl rfl (by (try simp only [List.map_toArray, List.map_cons, List.map_nil]); first | done | rfl) ?_
      refine (CL.out wd hHeld).mono ?_
      rintro e w8 ⟨A8, c8, rfl, ho8, hn8⟩
      refine ⟨_, rfl, ?_⟩
      refine hK.out _ _ (hHeld.trans hn8) (fun hHeld => ?_)
      clear hK K
      refine norm_ (a' := ?_) ?_ ?_
      rotate_left
      · show Act.put _ (some 16) _ = _
        simp only [Act.put, List.setIfInBounds_toArray, List.set_cons_zero, List.set_cons_succ]
        rfl
      have HO8 := Lib.hid ho8
      have HN8 := Lib.hid hn8
      clear ho8 hn8
      refine one_ (i := 9) (N := some 17) #[true, true, true, true, true, true, true, true, true, true, true, true, true, true, false, false, false] rfl rfl (one_of HT_.out (by kernel_rfl)) (by decide) (fun K hK => ?_)
      refine gives_ (v := .map (some w8.heap.size)) (w1 := w8.alloc (.map #[] 0)) (by rfl) rfl (by go_simp; rw [run_makeMap]; rfl) ?_
      have HH8 := Lib.hid hHeld
      refine hK.out _ _ (hHeld.alloc _) (fun hHeld => ?_)
      clear hK K
      refine norm_ (a' := ?_) ?_ ?_
      rotate_left
      · show Act.put _ (some 17) _ = _
        simp only [Act.put, List.setIfInBounds_toArray, List.set_cons_zero, List.set_cons_succ]
        rfl
      refine pure_ (i := 14) (N := some 22) (v := ?_) (a' := ?_) #[true, true, true, true, true, true, true, true, true, true, true, true, true, true, true, false, false] rfl rfl (any_of HT_.out (by kernel_rfl)) (fun _ _ _ h => h) (Or.inl ⟨by rfl, ?_⟩) ?_ ?_
      rotate_left
      · intro w'
        go_simp
        with_reducible rfl
      rotate_left
      · simp only [Act.put, List.setIfInBounds_toArray, List.set_cons_zero, List.set_cons_succ]
        rfl
      have HHD := Lib.hid hHeld
      refine one_ (i := 15) (N := some 23) #[true, true, true, true, true, true, true, true, true, true, true, true, true, true, true, true, false] rfl rfl (one_of HT_.out (by kernel_rfl)) (by decide) (fun K hK => ?_)
      refine gives_ (v := .pointer (some ⟨(w8.alloc (.map #[] 0)).heap.size, 0, none⟩)) (w1 := (w8.alloc (.map #[] 0)).alloc (.cells #[.bool lst, .slice A8 L c8, .map (some w8.heap.size), .int .i64 tk] 141)) (by rfl) rfl (by go_simp) ?_
      refine hK.out _ _ (hHeld.alloc _) (fun hHeld => ?_)
      clear hK K
      refine norm_ (a' := ?_) ?_ ?_
      rotate_left
      · show Act.put _ (some 23) _ = _
        simp only [Act.put, List.setIfInBounds_toArray, List.set_cons_zero, List.set_cons_succ]
        rfl
      refine pure_ (i := 16) (N := some 3) (v := ?_) (a' := ?_) #[true, true, true, true, true, true, true, true, true, true, true, true, true, true, true, true, true] rfl rfl (any_of HT_.out (by kernel_rfl)) (fun _ _ _ h => h) (Or.inl ⟨by rfl, ?_⟩) ?_ ?_
      rotate_left
      · intro w'
        go_simp
        with_reducible rfl
      rotate_left
      · simp only [Act.put, List.setIfInBounds_toArray, List.set_cons_zero, List.set_cons_succ]
        rfl
      refine done_ (done_of HT_.out (by kernel_rfl)) ?_
      clear hHeld
      go_wp2_with fail
      go_meet
      case rel =>
        exact ⟨A8, c8, _, _, rfl, (by have h9 := Row.new ((w8.alloc (.map #[] 0))) 141 [.bool lst, .slice A8 L c8, .map (some w8.heap.size), .int .i64 tk]; first | exact h9 | (rw [World.size_alloc] at h9; exact h9)), own_lower (own_new HO8.out (((New.refl _).alloc _).alloc _)) HWD.out.size, (MapAt.made w8).fr ((New.refl _).alloc _) (fun e => e), (by have h9 := HHD.out.size; first | exact h9 | (rw [World.size_alloc] at h9; exact h9)), HH8.out.size, HHD.out.alloc _⟩
    · refine gives_ (v := .map (some wd.heap.size)) (w1 := wd.alloc (.map #[] 0)) (by rfl) rfl (by go_simp; rw [run_makeMap]; rfl) ?_
      refine hK.out _ _ (hHeld.alloc _) (fun hHeld => ?_)
      clear hK K
      refine norm_ (a' := ?_) ?_ ?_
      rotate_left
      · show Act.put _ (some 17) _ = _
        simp only [Act.put, List.setIfInBounds_toArray, List.set_cons_zero, List.set_cons_succ]
        rfl
      refine one_ (i := 8) (N := some 16) #[true, true, true, true, true, true, true, true, true, true, true, true, true, true, false, false, false] rfl rfl (one_of HT_.out (by kernel_rfl)) (by decide) (fun K hK => ?_)
      refine goes_ Try.func126 (by kernel_rfl) rfl #[.slice A L c] (by rfl) rfl rfl (by (try simp only [List.map_toArray, List.map_cons, List.map_nil]); first | done | rfl) ?_
      refine (CL.out (wd.alloc (.map #[] 0)) hHeld).mono ?_
      rintro e w8 ⟨A8, c8, rfl, ho8, hn8⟩
      refine ⟨_, rfl, ?_⟩
      refine hK.out _ _ (hHeld.trans hn8) (fun hHeld => ?_)
      clear hK K
      refine norm_ (a' := ?_) ?_ ?_
      rotate_left
      · show Act.put _ (some 16) _ = _
        simp only [Act.put, List.setIfInBounds_toArray, List.set_cons_zero, List.set_cons_succ]
        rfl
      have HO8 := Lib.hid ho8
      have HN8 := Lib.hid hn8
      clear ho8 hn8
      refine pure_ (i := 14) (N := some 22) (v := ?_) (a' := ?_) #[true, true, true, true, true, true, true, true, true, true, true, true, true, true, true, false, false] rfl rfl (any_of HT_.out (by kernel_rfl)) (fun _ _ _ h => h) (Or.inl ⟨by rfl, ?_⟩) ?_ ?_
      rotate_left
      · intro w'
        go_simp
        with_reducible rfl
      rotate_left
      · simp only [Act.put, List.setIfInBounds_toArray, List.set_cons_zero, List.set_cons_succ]
        rfl
      have HHD := Lib.hid hHeld
      refine one_ (i := 15) (N := some 23) #[true, true, true, true, true, true, true, true, true, true, true, true, true, true, true, true, false] rfl rfl (one_of HT_.out (by kernel_rfl)) (by decide) (fun K hK => ?_)
      refine gives_ (v := .pointer (some ⟨w8.heap.size, 0, none⟩)) (w1 := w8.alloc (.cells #[.bool lst, .slice A8 L c8, .map (some wd.heap.size), .int .i64 tk] 141)) (by rfl) rfl (by go_simp) ?_
      refine hK.out _ _ (hHeld.alloc _) (fun hHeld => ?_)
      clear hK K
      refine norm_ (a' := ?_) ?_ ?_
      rotate_left
      · show Act.put _ (some 23) _ = _
        simp only [Act.put, List.setIfInBounds_toArray, List.set_cons_zero, List.set_cons_succ]
        rfl
      refine pure_ (i := 16) (N := some 3) (v := ?_) (a' := ?_) #[true, true, true, true, true, true, true, true, true, true, true, true, true, true, true, true, true] rfl rfl (any_of HT_.out (by kernel_rfl)) (fun _ _ _ h => h) (Or.inl ⟨by rfl, ?_⟩) ?_ ?_
      rotate_left
      · intro w'
        go_simp
        with_reducible rfl
      rotate_left
      · simp only [Act.put, List.setIfInBounds_toArray, List.set_cons_zero, List.set_cons_succ]
        rfl
      refine done_ (done_of HT_.out (by kernel_rfl)) ?_
      clear hHeld
      go_wp2_with fail
      go_meet
      case rel =>
        exact ⟨A8, c8, _, _, rfl, (by have h9 := Row.new (w8) 141 [.bool lst, .slice A8 L c8, .map (some wd.heap.size), .int .i64 tk]; first | exact h9 | (rw [World.size_alloc] at h9; exact h9)), own_lower (own_new HO8.out ((New.refl _).alloc _)) (Nat.le_trans HWD.out.size (by simp)), ((MapAt.made wd).fr HN8.out (fun e => e)).fr ((New.refl _).alloc _) (fun e => e), (by have h9 := HHD.out.size; first | exact h9 | (rw [World.size_alloc] at h9; exact h9)), HWD.out.size, HHD.out.alloc _⟩
  case rest =>
    obtain ⟨A8, c8, pm2, p, rfl, hrow, hown, hmap, hp, hpm2, hN⟩ := hcut
    obtain ⟨es, clock, hb, he, hbn, hnd, hkn⟩ := HI.out.map
    have hbc : wc.heap[pm]? = some (.map es clock) := (hN.block pm (Array.getElem?_eq_some_iff.1 hb).1 (fun e => e)).trans hb
    have s2 := HC2.out wc hN
    have rg := run_range_map (P := Try.prog) wc 138 9 25 pm es clock Try.underlying138 hbc
    have HE := Lib.hid he
    have HBN := Lib.hid hbn
    have HND := Lib.hid hnd
    have HKN := Lib.hid hkn
    have HB := Lib.hid hb
    have hNr : New wc (wc.alloc (.mapIter (some pm) clock #[] clock)) := (New.refl wc).alloc _
    have HS0 : Hid ((wc.alloc (.mapIter (some pm) clock #[] clock)).heap[wc.heap.size]? = some (.mapIter (some pm) clock #[] clock)) := Lib.hid (heap_alloc_new wc _)
    have HR0 := Lib.hid (hNr.row hrow)
    have HO0 := Lib.hid (own_new hown hNr)
    have HM0 := Lib.hid (hmap.fr hNr (fun e => e))
    have HN0 := Lib.hid (hN.trans hNr)
    have HRL := Lib.hid hN.size
    have HP := Lib.hid hp
    have HPM := Lib.hid hpm2
    have HPW := Lib.hid (show pm < w.heap.size from HI.out.map.lt)
    clear hN hNr hrow hown hmap he hbn hnd hkn hb hbc hp hpm2
    go_wp2_with fail
    clear rg s2
    generalize wc.heap.size = r at *
    generalize wc.alloc (.mapIter (some pm) clock #[] clock) = wl at *
    clear wc
    go_loopw [4, 5] (fun kv vv wr => ∃ seen c0 l2, Hid (wr.heap[r]? = some (.mapIter (some pm) clock seen c0)) ∧ Hid (clock ≤ c0) ∧ Hid (Row wr p 141 [.bool lst, .slice A8 L c8, .map (some pm2), .int .i64 tk]) ∧ Hid (wr.ownsRow w.heap.size 143 4 (.slice A8 L c8) L (entRow s.ents)) ∧ Hid (MapAt wr pm2 l2) ∧
      Hid (FRel wr es seen l2 s.ents) ∧ Hid (New w wr)) (fun _ _ wr => (leftOf es (wr.iterSeen r)).size)
    case atStart => exact ⟨#[], clock, [], HS0, Lib.hid (Nat.le_refl _), HR0, HO0, HM0, Lib.hid (FRel.start _ _ _), HN0⟩
    case round =>
      obtain ⟨seen, c0, l2, HS, HCL, HR, HO, HM, HF, HNW⟩ := hrel
      have hbr : wr.heap[pm]? = some (.map es clock) := (HNW.out.block pm HPW.out (fun e => e)).trans HB.out
      rcases run_next_at (P := Try.prog) wr 0 r pm clock c0 seen es clock HS.out hbr HBN.out HCL.out with ⟨h0, hnx⟩ | ⟨e, hel, w1, hw1, hnx⟩
      · have H0 := Lib.hid h0
        clear h0 hbr
        go_wp2_with fail
        go_ret
        refine ⟨p, rfl, ⟨A8, c8, pm2, l2, ?_⟩, HNW.out⟩
        exact { row := (by rw [HLST.out, HL.out, HTK.out]; exact HR.out), own := (by rw [HL.out]; exact HO.out), map := HM.out, of := HF.out.done_ HI.out.of HE.out H0.out, ents := fun x hx => (HI.out.ents x hx).keeps HNW.out.keeps, ok := HI.out.ok, low := HP.out, lowm := HPM.out }
      · obtain ⟨hem, hns⟩ := mem_left hel
        obtain ⟨q, hq, hk1, hv1⟩ := pair_of HE.out hem
        obtain ⟨key0, hby0, hkq⟩ := bytesOf_any q.1
        have hfd := mapFind_mem HKN.out hq
        obtain ⟨A1, c1, hof1, hof2⟩ := HI.out.of key0 hby0
        rw [hkq, hfd] at hof1
        have hof1 : q.2 = .slice A1 (idxs s.ents key0).length c1 := hof1
        have hlen1 : (idxs s.ents key0).length ≤ 4096 := Nat.le_trans (idxs_length_le _ _) HI.out.ok.few
        have HLN := Lib.hid hlen1
        obtain ⟨n1, hn1⟩ : ∃ n1, (idxs s.ents key0).length = n1 := ⟨_, rfl⟩
        have HN1 := Lib.hid hn1
        rw [hv1.symm, hn1] at hof1
        rw [← hkq] at hk1
        have hS1 := setBlock_is (o' := .mapIter (some pm) clock (seen.push e.born) clock) hw1 HS.out
        have hAt := setBlock_at (o := .mapIter (some pm) clock (seen.push e.born) clock) hw1 (r := r)
        rw [hk1, hof1] at hnx
        have HEM := Lib.hid hem
        have HEL := Lib.hid hel
        have HK1 := Lib.hid hk1
        generalize setBlock w1 r (.mapIter (some pm) clock (seen.push e.born) clock) = ws at hS1 hAt hnx
        have hbs : ws.heap[pm]? = some (.map es clock) := (hAt.block pm (Array.getElem?_eq_some_iff.1 hbr).1 ((HI.out.map.fr HNW.out (fun e => e)).ne_iter HS.out (by intro _ _ h; cases h))).trans hbr
        have hen := run_entry_at (P := Try.prog) ws r pm clock seen es clock e hS1 hbs hem HND.out
        rw [hk1, hof1] at hen
        have hpr : pm2 ≠ r := HM.out.ne_iter HS.out (by intro _ _ h; cases h)
        have hKC := hAt.keepC HS.out (by intro _ _ _ h; cases h)
        have HM2 : Hid (MapAt ws pm2 l2) := Lib.hid (HM.out.fr hAt hpr)
        have HR2 : Hid (Row ws p 141 [.bool lst, .slice A8 L c8, .map (some pm2), .int .i64 tk]) := Lib.hid (hKC.row HR.out)
        have HO2 : Hid (ws.ownsRow w.heap.size 143 4 (.slice A8 L c8) L (entRow s.ents)) := Lib.hid (hKC.own HO.out)
        have HF2 : Hid (FRel ws es seen l2 s.ents) := Lib.hid (HF.out.keeps hKC.keeps)
        have HN2 : Hid (New w ws) := Lib.hid (HNW.out.at_ hAt HRL.out)
        have HP2 : Hid (∀ W, New ws W → W.cell? ⟨p, 2, none⟩ = some (.map (some pm2))) := Lib.hid (fun W hW => (hW.row HR2.out).cell 2)
        have CK : Hid (∀ W, New ws W → Calls Try.prog 91 #[.slice A1 n1 c1] W fun e w' => ∃ A' c', e = .returned (.slice A' n1 c') ∧ w'.ownsRow W.heap.size 3 1 (.slice A' n1 c') n1 (nats (idxs s.ents key0)) ∧ New W w') := Lib.hid (fun W hW => by
          have h9 := clone_ints A1 c1 (nats (idxs s.ents key0)) W ((hof2.keeps (HN2.out.trans hW).keeps (by decide) (by decide)).elems) (nats_cells _) (by unfold nats; rw [List.length_map]; exact HLN.out)
          rw [show (nats (idxs s.ents key0)).length = n1 by unfold nats; rw [List.length_map]; exact HN1.out] at h9
          exact h9)
        have HS2 := Lib.hid hS1
        have HPR := Lib.hid hpr
        have HIS := Lib.hid (iterSeen_of HS.out)
        have HBY := Lib.hid hby0
        clear hS1 hAt hbs hbr hpr hKC hof2 hof1 hn1 hlen1 hfd hkq hk1 hv1 hem hns hel HS HCL HR HO HM HF HNW hw1 hq hby0
        go_wp2_with fail
        refine start_ (n := 8) (S := fun W => New ws W) (ds := [7]) #[false, false, false, false, false, false, false, false] (by kernel_rfl) rfl rfl (New.refl ws).drew (fun hHeld => ?_); refine with_tabW r59bTab r59bBits (fun HT_ HW_ => ?_)
        have HSD : Hid (New ws ws.drew) := Lib.hid (New.refl ws).drew
        generalize ws.drew = wd at hHeld HSD ⊢
        refine pure_ (i := 0) (N := some 34) (v := ?_) (a' := ?_) #[true, false, false, false, false, false, false, false] rfl rfl (any_of HT_.out (by kernel_rfl)) (fun _ _ _ h => h) (Or.inl ⟨by rfl, ?_⟩) ?_ ?_
        rotate_left
        · intro w'
          go_simp
          with_reducible rfl
        rotate_left
        · simp only [Act.put, List.setIfInBounds_toArray, List.set_cons_zero, List.set_cons_succ]
          rfl
        refine pure_ (i := 1) (N := some 35) (v := ?_) (a' := ?_) #[true, true, false, false, false, false, false, false] rfl rfl (any_of HT_.out (by kernel_rfl)) (fun _ _ _ h => h) (Or.inl ⟨by rfl, ?_⟩) ?_ ?_
        rotate_left
        · intro w'
          go_simp
          with_reducible rfl
        rotate_left
        · simp only [Act.put, List.setIfInBounds_toArray, List.set_cons_zero, List.set_cons_succ]
          rfl
        refine pure_ (i := 2) (N := some 36) (v := ?_) (a' := ?_) #[true, true, true, false, false, false, false, false] rfl rfl (any_of HT_.out (by kernel_rfl)) (fun _ _ _ h => h) (Or.inl ⟨by rfl, ?_⟩) ?_ ?_
        rotate_left
        · intro w'
          go_simp
          with_reducible rfl
        rotate_left
        · simp only [Act.put, List.setIfInBounds_toArray, List.set_cons_zero, List.set_cons_succ]
          rfl
        refine pure_ (i := 4) (N := some 38) (v := ?_) (a' := ?_) #[true, true, true, false, true, false, false, false] rfl rfl (any_of HT_.out (by kernel_rfl)) (fun _ _ _ h => h) (Or.inl ⟨by rfl, ?_⟩) ?_ ?_
        rotate_left
        · intro w'
          go_simp
          with_reducible rfl
        rotate_left
        · simp only [Act.put, List.setIfInBounds_toArray, List.set_cons_zero, List.set_cons_succ]
          rfl
        refine pure_ (i := 5) (N := some 39) (v := ?_) (a' := ?_) #[true, true, true, false, true, true, false, false] rfl rfl (any_of HT_.out (by kernel_rfl)) (fun _ _ _ h => h) (Or.inl ⟨by rfl, ?_⟩) ?_ ?_
        rotate_left
        · intro w'
          go_simp
          with_reducible rfl
        rotate_left
        · simp only [Act.put, List.setIfInBounds_toArray, List.set_cons_zero, List.set_cons_succ]
          rfl
        refine take_ (i := 3) (N := some 37) (v := ?_) (a' := ?_) #[true, true, true, true, true, true, false, false] rfl rfl (take_ofW HT_.out HW_.out (by kernel_rfl)) (fun _ _ _ h => h) (Or.inl ⟨by rfl, ?_⟩) hHeld ?_ ?_
        rotate_left
        · intro w' hkt
          have s2 := HP2.out w' hkt
          go_simp
          with_reducible rfl
        rotate_left
        · simp only [Act.put, List.setIfInBounds_toArray, List.set_cons_zero, List.set_cons_succ]
          rfl
        refine one_ (i := 6) (N := some 40) #[true, true, true, true, true, true, true, false] rfl rfl (one_of HT_.out (by kernel_rfl)) (by decide) (fun K hK => ?_)
        refine goes_ Try.func91 (by kernel_rfl) rfl #[.slice A1 n1 c1] (by rfl) rfl rfl (by (try simp only [List.map_toArray, List.map_cons, List.map_nil]); first | done | rfl) ?_
        refine (CK.out wd hHeld).mono ?_
        rintro e w8 ⟨A8, c8, rfl, ho8, hn8⟩
        refine ⟨_, rfl, ?_⟩
        refine hK.out _ _ (hHeld.trans hn8) (fun hHeld => ?_)
        clear hK K
        refine norm_ (a' := ?_) ?_ ?_
        rotate_left
        · show Act.put _ (some 40) _ = _
          simp only [Act.put, List.setIfInBounds_toArray, List.set_cons_zero, List.set_cons_succ]
          rfl
        have HN8 := Lib.hid (HSD.out.trans hn8)
        have HO8 := Lib.hid ho8
        clear ho8 hn8
        obtain ⟨w9, hmu, hm9, hat9⟩ := run_mapUpdate_string (P := Try.prog) (HM2.out.fr HN8.out (fun e => e)) 138 9 25 Try.underlying138 Try.underlying9 (strOfNums key0) (.slice A8 n1 c8)
        refine last_ (i := 7) (N := none) #[true, true, true, true, true, true, true, true] rfl rfl (one_of HT_.out (by kernel_rfl)) (by decide) (fun K hK => ?_)
        refine skip_ (w1 := w9) (by rfl) rfl (by go_simp) ?_
        refine hK.out _ _ ?_
        clear hK K
        refine done_ (done_of HT_.out (by kernel_rfl)) ?_
        have HM9 := Lib.hid hm9
        have HAT9 := Lib.hid hat9
        clear hmu hm9 hat9 hnx hen hHeld
        go_wp2_with fail
        have hm8 : MapAt w8 pm2 l2 := HM2.out.fr HN8.out (fun e => e)
        have hk9 : KeepC ws w9 := by
          obtain ⟨es8, cl8, hb8, _⟩ := hm8
          exact HN8.out.keepC.trans (HAT9.out.keepC hb8 (by intro _ _ _ h; cases h))
        have hk89 : KeepC w8 w9 := by
          obtain ⟨es8, cl8, hb8, _⟩ := hm8
          exact HAT9.out.keepC hb8 (by intro _ _ _ h; cases h)
        have hs9 : w9.heap[r]? = some (.mapIter (some pm) clock (seen.push e.born) clock) := by
          have hlt := (Array.getElem?_eq_some_iff.1 HS2.out).1
          have h8 := (HN8.out.block r hlt (fun e => e)).trans HS2.out
          exact (HAT9.out.block r (Array.getElem?_eq_some_iff.1 h8).1 (fun e => HPR.out e.symm)).trans h8
        have hel9 : ElemsT w9 3 A8 ((idxs s.ents key0).map fun i : Nat => Value.int .i64 i) := (elemsT_of_own HO8.out).keeps hk89.keeps (by decide) (by decide)
        have hf9 := (HF2.out.keeps hk9.keeps).step (c := c8) HND.out HEM.out HK1.out HBY.out hel9
        rw [HN1.out] at hf9
        refine ⟨⟨seen.push e.born, clock, mapPut l2 (strOfNums key0) (.slice A8 n1 c8), Lib.hid hs9, Lib.hid (Nat.le_refl _), Lib.hid (hk9.row HR2.out), Lib.hid (hk9.own HO2.out), HM9, Lib.hid hf9, Lib.hid ((HN2.out.trans HN8.out).at_ HAT9.out HPM.out)⟩, ?_⟩
        rw [iterSeen_of hs9, HIS.out]
        exact left_shrinks es seen e HEL.out
end Go.Proofs.Ytapfihlgemejiaa
