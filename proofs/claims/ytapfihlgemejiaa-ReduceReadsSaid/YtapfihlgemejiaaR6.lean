/- reduce.round: the comparing closure. | The insertion sort by a rank of three, plain. | slices.insertionSortCmpFunc by a comparing closure that lays blocks. | slices.SortStableFunc at nine elements or fewer; reduce.round. -/
import Derived.Test.YtapfihlgemejiaaR3
import Derived.Test.YtapfihlgemejiaaN20
import Derived.Test.YtapfihlgemejiaaO0
import Derived.Laws.EntriesVeiled
-- reduce.round: the comparing closure.
namespace Go.Proofs.Ytapfihlgemejiaa
open Go.RowKit Go.Proofs.YtapfihlgemejiaaW.PrintLast
def r174T : Bool × List (List Nat × List Nat) := (true, [([], []), ([], []), ([0, 1], [0, 1]), ([], []), ([], []), ([3, 4, 2], [3, 4]), ([2, 5], [2, 5]), ([6, 5, 0, 1, 2, 3, 4, 5, 6], [6])])
def r174B : List Nat := [0, 0, 3, 0, 0, 31, 63, 127]
theorem r174Tab : rtab .any (opsOf Try.f174 1) = r174T := by kernel_rfl
theorem r174Bits : waitsOk r174T.2 r174B = true := by kernel_rfl
set_option maxRecDepth 100000 in
set_option maxHeartbeats 4000000 in
theorem cmpRank_any (b x y g g2 : Nat) (z : Zn) (w : World) (h : ZoneAt w b z) (hx : x ≤ z.n) (hy : y ≤ z.n) (hr : Row w g 196 [.pointer (some ⟨b, 0, none⟩)]) (hf : Row w g2 34 [.func (.func 172) #[] #[.pointer (some ⟨g, 0, none⟩)]]) :
    Calls Try.prog 174 #[.int .i64 x, .int .i64 y, .pointer (some ⟨g2, 0, none⟩)] w fun e w' => e = .returned (.int .i64 ((rankI z.Z x : Int) - rankI z.Z y)) ∧ New w w' := by
  have A1 := Lib.hid (fun W (hn : New w W) => rank_any b x g z W (h.new hn) hx (hn.row hr))
  have A2 := Lib.hid (fun W (hn : New w W) => rank_any b y g z W (h.new hn) hy (hn.row hr))
  have c0 : w.cell? ⟨g2, 0, none⟩ = some (.func (.func 172) #[] #[.pointer (some ⟨g, 0, none⟩)]) := hf.cell 0
  clear h hr
  go_enter Try.func174, Try.ntmps174
  go_wp2_with fail
  refine start_ (n := 8) (S := fun W => Row W g2 34 [.func (.func 172) #[] #[.pointer (some ⟨g, 0, none⟩)]] ∧ New w W) (ds := []) #[false, false, false, false, false, false, false, false] (by kernel_rfl) rfl rfl ⟨hf.drew, (New.refl w).drew⟩ (fun hHeld => ?_); refine with_tabW r174Tab r174Bits (fun HT_ HW_ => ?_)
  generalize w.drew = wd at hHeld ⊢
  refine take_ (i := 0) (N := some 6) (v := ?_) (a' := ?_) #[true, false, false, false, false, false, false, false] rfl rfl (take_ofW HT_.out HW_.out (by kernel_rfl)) (fun _ _ _ h => h) (Or.inl ⟨by rfl, ?_⟩) hHeld ?_ ?_
  rotate_left
  · intro w' hkt
    have s0 : w'.cell? ⟨g2, 0, none⟩ = some (.func (.func 172) #[] #[.pointer (some ⟨g, 0, none⟩)]) := hkt.1.cell 0
    go_simp
    with_reducible rfl
  rotate_left
  · simp only [Act.put, List.setIfInBounds_toArray, List.set_cons_zero, List.set_cons_succ]
    rfl
  refine pure_ (i := 1) (N := some 7) (v := ?_) (a' := ?_) #[true, true, false, false, false, false, false, false] rfl rfl (any_of HT_.out (by kernel_rfl)) (fun _ _ _ h => h) (Or.inl ⟨by rfl, ?_⟩) ?_ ?_
  rotate_left
  · intro w'
    go_simp
    with_reducible rfl
  rotate_left
  · simp only [Act.put, List.setIfInBounds_toArray, List.set_cons_zero, List.set_cons_succ]
    rfl
  refine pure_ (i := 4) (N := some 10) (v := ?_) (a' := ?_) #[true, true, false, false, true, false, false, false] rfl rfl (any_of HT_.out (by kernel_rfl)) (fun _ _ _ h => h) (Or.inl ⟨by rfl, ?_⟩) ?_ ?_
  rotate_left
  · intro w'
    go_simp
    with_reducible rfl
  rotate_left
  · simp only [Act.put, List.setIfInBounds_toArray, List.set_cons_zero, List.set_cons_succ]
    rfl
  refine take_ (i := 3) (N := some 9) (v := ?_) (a' := ?_) #[true, true, false, true, true, false, false, false] rfl rfl (take_ofW HT_.out HW_.out (by kernel_rfl)) (fun _ _ _ h => h) (Or.inl ⟨by rfl, ?_⟩) hHeld ?_ ?_
  rotate_left
  · intro w' hkt
    have s0 : w'.cell? ⟨g2, 0, none⟩ = some (.func (.func 172) #[] #[.pointer (some ⟨g, 0, none⟩)]) := hkt.1.cell 0
    go_simp
    with_reducible rfl
  rotate_left
  · simp only [Act.put, List.setIfInBounds_toArray, List.set_cons_zero, List.set_cons_succ]
    rfl
  refine one_ (i := 2) (N := some 8) #[true, true, true, true, true, false, false, false] rfl rfl (one_of HT_.out (by kernel_rfl)) (by decide) (fun K hK => ?_)
  refine call_ 172 #[.int .i64 x, .pointer (some ⟨g, 0, none⟩)] (by rfl) rfl (by
    have he := enters_ Try.func172 (by kernel_rfl) rfl #[.int .i64 x, .pointer (some ⟨g, 0, none⟩)]
    unfold execOp
    simp [resolve, Deferred.ofValue, invoke, Act.eval, he]) ?_
  refine (A1.out _ hHeld.2).mono ?_
  rintro e vx ⟨rfl, hnx⟩
  refine ⟨_, rfl, ?_⟩
  refine hK.out _ _ ⟨hnx.row hHeld.1, hHeld.2.trans hnx⟩ (fun hHeld => ?_)
  clear hK K
  refine norm_ (a' := ?_) ?_ ?_
  rotate_left
  · show Act.put _ (some 8) _ = _
    simp only [Act.put, List.setIfInBounds_toArray, List.set_cons_zero, List.set_cons_succ]
    rfl
  refine one_ (i := 5) (N := some 11) #[true, true, true, true, true, true, false, false] rfl rfl (one_of HT_.out (by kernel_rfl)) (by decide) (fun K hK => ?_)
  refine call_ 172 #[.int .i64 y, .pointer (some ⟨g, 0, none⟩)] (by rfl) rfl (by
    have he := enters_ Try.func172 (by kernel_rfl) rfl #[.int .i64 y, .pointer (some ⟨g, 0, none⟩)]
    unfold execOp
    simp [resolve, Deferred.ofValue, invoke, Act.eval, he]) ?_
  refine (A2.out _ hHeld.2).mono ?_
  rintro e vy ⟨rfl, hny⟩
  refine ⟨_, rfl, ?_⟩
  refine hK.out _ _ ⟨hny.row hHeld.1, hHeld.2.trans hny⟩ (fun hHeld => ?_)
  clear hK K
  refine norm_ (a' := ?_) ?_ ?_
  rotate_left
  · show Act.put _ (some 11) _ = _
    simp only [Act.put, List.setIfInBounds_toArray, List.set_cons_zero, List.set_cons_succ]
    rfl
  refine pure_ (i := 6) (N := some 12) (v := ?_) (a' := ?_) #[true, true, true, true, true, true, true, false] rfl rfl (any_of HT_.out (by kernel_rfl)) (fun _ _ _ h => h) (Or.inl ⟨by rfl, ?_⟩) ?_ ?_
  rotate_left
  · intro w'
    go_simp
    with_reducible rfl
  rotate_left
  · simp only [Act.put, List.setIfInBounds_toArray, List.set_cons_zero, List.set_cons_succ]
    rfl
  refine pure_ (i := 7) (N := some 5) (v := ?_) (a' := ?_) #[true, true, true, true, true, true, true, true] rfl rfl (any_of HT_.out (by kernel_rfl)) (fun _ _ _ h => h) (Or.inl ⟨by rfl, ?_⟩) ?_ ?_
  rotate_left
  · intro w'
    go_simp
    with_reducible rfl
  rotate_left
  · simp only [Act.put, List.setIfInBounds_toArray, List.set_cons_zero, List.set_cons_succ]
    rfl
  refine done_ (done_of HT_.out (by kernel_rfl)) ?_
  have rx : ∀ u, rankI z.Z u ≤ 2 := fun u => by unfold rankI; repeat (first | omega | split)
  have hx2 := rx x
  have hy2 := rx y
  rw [show IntKind.i64.wrap ((rankI z.Z x : Int) - rankI z.Z y) = (rankI z.Z x : Int) - rankI z.Z y by rw [IntKind.wrap_i64]; omega]
  go_wp2_with fail
  go_ret
  exact ⟨rfl, hHeld.2⟩
end Go.Proofs.Ytapfihlgemejiaa
-- The insertion sort by a rank of three, plain.
namespace Go.Proofs.Ytapfihlgemejiaa

/-- Two neighbours turned. -/
def swapL (d : List Nat) (j : Nat) : List Nat := (d.set (j + 1) (d.getD j 0)).set j (d.getD (j + 1) 0)
/-- An element sinks to its place. -/
def sink (f : Nat → Nat) : List Nat → Nat → List Nat
  | d, 0 => d
  | d, j + 1 => if f (d.getD (j + 1) 0) < f (d.getD j 0) then sink f (swapL d j) j else d
def insTo (f : Nat → Nat) (d : List Nat) : Nat → List Nat
  | 0 => d
  | m + 1 => sink f (insTo f d m) (m + 1)
theorem swapL_mid (A : List Nat) (y x : Nat) (R : List Nat) : swapL (A ++ y :: x :: R) A.length = A ++ x :: y :: R := by
  unfold swapL
  simp [List.getD_eq_getElem?_getD]
theorem sink_mid (f : Nat → Nat) (x : Nat) : ∀ (B : List Nat) (A R : List Nat), (∀ y ∈ B, f x < f y) → (∀ a, A.getLast? = some a → f a ≤ f x) →
    sink f (A ++ B.reverse ++ x :: R) (A.length + B.length) = A ++ x :: (B.reverse ++ R) := by
  intro B
  induction B with
  | nil =>
    intro A R _ hA
    cases hl : A.length with
    | zero =>
      have : A = [] := List.length_eq_zero_iff.1 hl
      subst this
      rfl
    | succ k =>
      have hne : A ≠ [] := by intro e; subst e; cases hl
      have h1 := hA _ (List.getLast?_eq_some_getLast hne)
      show sink f (A ++ [] ++ x :: R) (k + 1) = _
      have e1 : (A ++ [] ++ x :: R).getD (k + 1) 0 = x := by
        rw [List.getD_eq_getElem?_getD, List.append_nil, List.getElem?_append_right (by omega), hl]; simp
      have e2 : (A ++ [] ++ x :: R).getD k 0 = A.getLast hne := by
        rw [List.getD_eq_getElem?_getD, List.append_nil, List.getElem?_append_left (by omega), List.getLast_eq_getElem]
        simp [hl]
      unfold sink
      rw [e1, e2, if_neg (by omega)]
      simp
  | cons y B ih =>
    intro A R hB hA
    have e0 : A ++ (y :: B).reverse ++ x :: R = (A ++ B.reverse) ++ y :: x :: R := by simp
    have hlen : A.length + (y :: B).length = (A ++ B.reverse).length + 1 := by simp; omega
    rw [e0, hlen]
    have e1 : ((A ++ B.reverse) ++ y :: x :: R).getD ((A ++ B.reverse).length + 1) 0 = x := by
      rw [List.getD_eq_getElem?_getD, List.getElem?_append_right (by omega)]; simp
    have e2 : ((A ++ B.reverse) ++ y :: x :: R).getD (A ++ B.reverse).length 0 = y := by
      rw [List.getD_eq_getElem?_getD, List.getElem?_append_right (by omega)]; simp
    unfold sink
    rw [e1, e2, if_pos (hB y (by simp)), swapL_mid]
    have := ih A (y :: R) (fun u hu => hB u (by simp [hu])) hA
    rw [show (A ++ B.reverse).length = A.length + B.length by simp]
    rw [this]
    simp
/-- In the order of three ranks. -/
def byRank (f : Nat → Nat) (c : List Nat) : List Nat := (c.filter fun x => f x = 0) ++ (c.filter fun x => f x = 1) ++ (c.filter fun x => f x = 2)
theorem byRank_nil (f : Nat → Nat) : byRank f [] = [] := rfl
theorem byRank_length (f : Nat → Nat) (hf : ∀ x, f x ≤ 2) : ∀ c : List Nat, (byRank f c).length = c.length
  | [] => rfl
  | x :: c => by
    have ih := byRank_length f hf c
    have h := hf x
    have h3 : f x = 0 ∨ f x = 1 ∨ f x = 2 := by omega
    unfold byRank at ih ⊢
    simp only [List.length_append] at ih
    rcases h3 with h3 | h3 | h3 <;> simp [h3] <;> omega
theorem sink_byRank (f : Nat → Nat) (hf : ∀ x, f x ≤ 2) (t R : List Nat) (x : Nat) : sink f (byRank f t ++ x :: R) t.length = byRank f (t ++ [x]) ++ R := by
  have hlen := byRank_length f hf t
  have h3 : f x = 0 ∨ f x = 1 ∨ f x = 2 := by have := hf x; omega
  have key : ∀ (A B : List Nat), byRank f t = A ++ B → (∀ y ∈ B, f x < f y) → (∀ a ∈ A, f a ≤ f x) → sink f (byRank f t ++ x :: R) t.length = A ++ x :: (B ++ R) := fun A B e hB hA => by
    have h := sink_mid f x B.reverse A R (fun y hy => hB y (by simpa using hy)) (fun a ha => hA a (List.mem_of_getLast? ha))
    rw [List.reverse_reverse] at h
    rw [← hlen, e]
    simpa using h
  rcases h3 with h | h | h
  · rw [key (t.filter fun x => f x = 0) ((t.filter fun x => f x = 1) ++ (t.filter fun x => f x = 2)) (by unfold byRank; simp) (fun y hy => by simp at hy; omega) (fun a ha => by simp at ha; omega)]
    unfold byRank
    simp [h]
  · rw [key ((t.filter fun x => f x = 0) ++ (t.filter fun x => f x = 1)) (t.filter fun x => f x = 2) (by unfold byRank; simp) (fun y hy => by simp at hy; omega) (fun a ha => by simp at ha; omega)]
    unfold byRank
    simp [h]
  · rw [key (byRank f t) [] (by simp) (fun y hy => by cases hy) (fun a ha => by have := hf a; omega)]
    unfold byRank
    simp [h]
theorem insTo_byRank (f : Nat → Nat) (hf : ∀ x, f x ≤ 2) (c : List Nat) : ∀ m, m < c.length → insTo f c m = byRank f (c.take (m + 1)) ++ c.drop (m + 1)
  | 0, h => by
    cases c with
    | nil => cases h
    | cons x c =>
      have := sink_byRank f hf [] c x
      simpa [byRank_nil, sink, insTo] using this
  | m + 1, h => by
    show sink f (insTo f c m) (m + 1) = _
    rw [insTo_byRank f hf c m (by omega), List.drop_eq_getElem_cons h]
    have := sink_byRank f hf (c.take (m + 1)) (c.drop (m + 1 + 1)) c[m + 1]
    rw [List.length_take, Nat.min_eq_left (by omega)] at this
    rw [this, List.take_succ_eq_append_getElem h]
theorem insTo_all (f : Nat → Nat) (hf : ∀ x, f x ≤ 2) (c : List Nat) (h : c ≠ []) : insTo f c (c.length - 1) = byRank f c := by
  have hp : 0 < c.length := List.length_pos_iff.2 h
  rw [insTo_byRank f hf c _ (by omega)]
  rw [show c.length - 1 + 1 = c.length by omega]
  simp
theorem roundL_eq (Z : List Int) (c : List Nat) (h : c.getD 0 0 = 0) : roundL Z c = byRank (rankI Z) c := by
  unfold roundL byRank
  rw [if_pos h]
end Go.Proofs.Ytapfihlgemejiaa
-- slices.insertionSortCmpFunc by a comparing closure that lays blocks.
namespace Go.Proofs.Ytapfihlgemejiaa
open Go.RowKit Go.Proofs.YtapfihlgemejiaaW.PrintLast
def r195T : Bool × List (List Nat × List Nat) := (true, [([], []), ([], []), ([0, 1], [0, 1]), ([2], [2]), ([3], [3]), ([3], [3]), ([3], [3]), ([5, 6, 3], [3, 5, 6]), ([7, 3], [3, 7]), ([3], [3]), ([3], [3]), ([10, 3], [3, 10]), ([9, 11, 3], [3, 9, 11]), ([12, 3], [3, 12]), ([4, 8, 13, 3, 3], [3, 4, 8, 13]), ([14, 3], [3, 14]), ([3, 15], [3, 15])])
def r195B : List Nat := [0, 0, 3, 7, 15, 15, 15, 111, 239, 15, 15, 1039, 3599, 7695, 16383, 32767, 65535]
theorem r195Tab : rtab .any (opsOf Try.f195 4) = r195T := by kernel_rfl
theorem r195Bits : waitsOk r195T.2 r195B = true := by kernel_rfl
theorem swapL_length (d : List Nat) (j : Nat) : (swapL d j).length = d.length := by simp [swapL]
theorem swapL_le {d : List Nat} {N : Nat} (h : ∀ i, d.getD i 0 ≤ N) (j i : Nat) : (swapL d j).getD i 0 ≤ N := by
  unfold swapL
  rw [List.getD_eq_getElem?_getD, List.getElem?_set, List.getElem?_set, List.length_set]
  have h1 := h (j + 1)
  have h2 := h j
  have h3 := h i
  rw [List.getD_eq_getElem?_getD] at h3
  repeat (first | exact h3 | exact Nat.zero_le _ | assumption | split)
set_option maxRecDepth 100000 in
set_option maxHeartbeats 4000000 in
theorem insertion_any (base g cap : Nat) (c : List Nat) (N : Nat) (f : Nat → Nat) (p : Value) (w : World) (ho : w.ownsRow base 3 1 (.slice (some ⟨g, 0, none⟩) c.length cap) c.length (nats c)) (hl : c.length ≤ 9) (hN : ∀ i, c.getD i 0 ≤ N) (hf : ∀ x, f x ≤ 2)
    (hcmp : ∀ W, At g w W → ∀ x y, x ≤ N → y ≤ N → Calls Try.prog 174 #[.int .i64 x, .int .i64 y, p] W fun e w' => e = .returned (.int .i64 ((f x : Int) - f y)) ∧ New W w') :
    Calls Try.prog 195 #[.slice (some ⟨g, 0, none⟩) c.length cap, .int .i64 0, .int .i64 c.length, .func (.func 174) #[] #[p]] w fun e w' => e = .returned (.tuple #[]) ∧ w'.ownsRow base 3 1 (.slice (some ⟨g, 0, none⟩) c.length cap) c.length (nats (insTo f c (c.length - 1))) ∧ At g w w' := by
  have HC := Lib.hid hcmp
  have HO0 := Lib.hid ho
  have HF := Lib.hid hf
  have HN0 := Lib.hid hN
  clear hcmp ho hf hN
  go_enter Try.func195, Try.ntmps195
  go_wp2_with fail
  go_loopw [8] (fun vi wr => ∃ i : Nat, 0 < i ∧ (i ≤ c.length ∨ i = 1) ∧ vi = .int .i64 i ∧ ∃ d : List Nat, d.length = c.length ∧ Hid (∀ k, d.getD k 0 ≤ N) ∧ Hid (d = insTo f c (i - 1)) ∧ Hid (wr.ownsRow base 3 1 (.slice (some ⟨g, 0, none⟩) c.length cap) c.length (nats d)) ∧ At g w wr)
    (fun vi _ => c.length + 1 - (intOf vi).toNat)
  case atStart => exact ⟨1, by omega, .inr rfl, by go_num, c, rfl, HN0.out, rfl, HO0.out, At.refl _ _⟩
  case round =>
    rename World => wo
    obtain ⟨i, hi0, hi, rfl, d, hdl, HDN, HD, HDO, hato⟩ := hrel
    by_cases hlt : i < c.length
    · have hltz : (i : Int) < c.length := by omega
      go_wp2_with fail
      go_loopw [9] (fun vj wq => ∃ j : Nat, j ≤ i ∧ vj = .int .i64 j ∧ ∃ dj : List Nat, dj.length = c.length ∧ Hid (∀ k, dj.getD k 0 ≤ N) ∧ Hid (sink f dj j = sink f d i) ∧ Hid (wq.ownsRow base 3 1 (.slice (some ⟨g, 0, none⟩) c.length cap) c.length (nats dj)) ∧ At g w wq)
        (fun vj _ => (intOf vj).toNat)
      case atStart => exact ⟨i, Nat.le_refl _, rfl, d, hdl, HDN, rfl, HDO, hato⟩
      case round =>
        obtain ⟨j, hji, rfl, dj, hjl, HJN, HS, HO, hat⟩ := hrel
        have OUT : Hid ((∀ jp, j = jp + 1 → ¬ f (dj.getD (jp + 1) 0) < f (dj.getD jp 0)) → dj = insTo f c (i + 1 - 1)) := fun hs => by
          obtain ⟨i', rfl⟩ : ∃ i', i = i' + 1 := ⟨i - 1, by omega⟩
          rw [show i' + 1 + 1 - 1 = i' + 1 by omega]
          show dj = sink f (insTo f c i') (i' + 1)
          have h1 := HD.out
          rw [show i' + 1 - 1 = i' by omega] at h1
          rw [← h1, ← HS.out]
          cases j with
          | zero => rfl
          | succ jp => unfold sink; rw [if_neg (hs jp rfl)]
        cases j with
        | zero =>
          have hjaz : decide ((0 : Int) > 0) = false := by decide
          have hjaz' : ¬ (0 : Int) < 0 := by decide
          go_wp2_with fail
          refine start_ (n := 17) (S := fun W => New wr W) (ds := []) #[false, false, false, false, false, false, false, false, false, false, false, false, false, false, false, false, false] (by kernel_rfl) rfl rfl (New.refl wr).drew (fun hHeld => ?_); refine with_tabW r195Tab r195Bits (fun HT_ HW_ => ?_)
          generalize wr.drew = wd at hHeld ⊢
          refine pure_ (i := 0) (N := some 18) (v := ?_) (a' := ?_) #[true, false, false, false, false, false, false, false, false, false, false, false, false, false, false, false, false] rfl rfl (any_of HT_.out (by kernel_rfl)) (fun _ _ _ h => h) (Or.inl ⟨by rfl, ?_⟩) ?_ ?_
          rotate_left
          · intro w'
            go_simp
            with_reducible rfl
          rotate_left
          · simp only [Act.put, List.setIfInBounds_toArray, List.set_cons_zero, List.set_cons_succ]
            rfl
          refine pure_ (i := 1) (N := some 19) (v := ?_) (a' := ?_) #[true, true, false, false, false, false, false, false, false, false, false, false, false, false, false, false, false] rfl rfl (any_of HT_.out (by kernel_rfl)) (fun _ _ _ h => h) (Or.inl ⟨by rfl, ?_⟩) ?_ ?_
          rotate_left
          · intro w'
            go_simp
            with_reducible rfl
          rotate_left
          · simp only [Act.put, List.setIfInBounds_toArray, List.set_cons_zero, List.set_cons_succ]
            rfl
          refine pure_ (i := 2) (N := some 20) (v := ?_) (a' := ?_) #[true, true, true, false, false, false, false, false, false, false, false, false, false, false, false, false, false] rfl rfl (any_of HT_.out (by kernel_rfl)) (fun _ _ _ h => h) (Or.inl ⟨by rfl, ?_⟩) ?_ ?_
          rotate_left
          · intro w'
            go_simp
            with_reducible rfl
          rotate_left
          · simp only [Act.put, List.setIfInBounds_toArray, List.set_cons_zero, List.set_cons_succ]
            rfl
          refine pure_ (i := 3) (N := some 21) (v := ?_) (a' := ?_) #[true, true, true, true, false, false, false, false, false, false, false, false, false, false, false, false, false] rfl rfl (any_of HT_.out (by kernel_rfl)) (fun _ _ _ h => h) (Or.inl ⟨by rfl, ?_⟩) ?_ ?_
          rotate_left
          · intro w'
            go_simp
            with_reducible rfl
          rotate_left
          · simp only [Act.put, List.setIfInBounds_toArray, List.set_cons_zero, List.set_cons_succ]
            rfl
          refine pure_ (i := 4) (N := some 22) (v := undef) (a' := ?_) #[true, true, true, true, true, false, false, false, false, false, false, false, false, false, false, false, false] rfl rfl (any_of HT_.out (by kernel_rfl)) (fun _ _ _ h => h) (Or.inr ⟨by rfl, rfl⟩) ?_ ?_
          rotate_left
          · simp only [Act.put, List.setIfInBounds_toArray, List.set_cons_zero, List.set_cons_succ]
            rfl
          refine pure_ (i := 5) (N := some 23) (v := undef) (a' := ?_) #[true, true, true, true, true, true, false, false, false, false, false, false, false, false, false, false, false] rfl rfl (any_of HT_.out (by kernel_rfl)) (fun _ _ _ h => h) (Or.inr ⟨by rfl, rfl⟩) ?_ ?_
          rotate_left
          · simp only [Act.put, List.setIfInBounds_toArray, List.set_cons_zero, List.set_cons_succ]
            rfl
          refine pure_ (i := 6) (N := some 24) (v := undef) (a' := ?_) #[true, true, true, true, true, true, true, false, false, false, false, false, false, false, false, false, false] rfl rfl (any_of HT_.out (by kernel_rfl)) (fun _ _ _ h => h) (Or.inr ⟨by rfl, rfl⟩) ?_ ?_
          rotate_left
          · simp only [Act.put, List.setIfInBounds_toArray, List.set_cons_zero, List.set_cons_succ]
            rfl
          refine pure_ (i := 7) (N := some 25) (v := undef) (a' := ?_) #[true, true, true, true, true, true, true, true, false, false, false, false, false, false, false, false, false] rfl rfl (any_of HT_.out (by kernel_rfl)) (fun _ _ _ h => h) (Or.inr ⟨by rfl, rfl⟩) ?_ ?_
          rotate_left
          · simp only [Act.put, List.setIfInBounds_toArray, List.set_cons_zero, List.set_cons_succ]
            rfl
          refine pure_ (i := 8) (N := some 26) (v := undef) (a' := ?_) #[true, true, true, true, true, true, true, true, true, false, false, false, false, false, false, false, false] rfl rfl (any_of HT_.out (by kernel_rfl)) (fun _ _ _ h => h) (Or.inr ⟨by rfl, rfl⟩) ?_ ?_
          rotate_left
          · simp only [Act.put, List.setIfInBounds_toArray, List.set_cons_zero, List.set_cons_succ]
            rfl
          refine pure_ (i := 9) (N := some 27) (v := undef) (a' := ?_) #[true, true, true, true, true, true, true, true, true, true, false, false, false, false, false, false, false] rfl rfl (any_of HT_.out (by kernel_rfl)) (fun _ _ _ h => h) (Or.inr ⟨by rfl, rfl⟩) ?_ ?_
          rotate_left
          · simp only [Act.put, List.setIfInBounds_toArray, List.set_cons_zero, List.set_cons_succ]
            rfl
          refine pure_ (i := 10) (N := some 28) (v := undef) (a' := ?_) #[true, true, true, true, true, true, true, true, true, true, true, false, false, false, false, false, false] rfl rfl (any_of HT_.out (by kernel_rfl)) (fun _ _ _ h => h) (Or.inr ⟨by rfl, rfl⟩) ?_ ?_
          rotate_left
          · simp only [Act.put, List.setIfInBounds_toArray, List.set_cons_zero, List.set_cons_succ]
            rfl
          refine pure_ (i := 11) (N := some 29) (v := undef) (a' := ?_) #[true, true, true, true, true, true, true, true, true, true, true, true, false, false, false, false, false] rfl rfl (any_of HT_.out (by kernel_rfl)) (fun _ _ _ h => h) (Or.inr ⟨by rfl, rfl⟩) ?_ ?_
          rotate_left
          · simp only [Act.put, List.setIfInBounds_toArray, List.set_cons_zero, List.set_cons_succ]
            rfl
          refine pure_ (i := 12) (N := some 30) (v := undef) (a' := ?_) #[true, true, true, true, true, true, true, true, true, true, true, true, true, false, false, false, false] rfl rfl (any_of HT_.out (by kernel_rfl)) (fun _ _ _ h => h) (Or.inr ⟨by rfl, rfl⟩) ?_ ?_
          rotate_left
          · simp only [Act.put, List.setIfInBounds_toArray, List.set_cons_zero, List.set_cons_succ]
            rfl
          refine pure_ (i := 13) (N := some 31) (v := undef) (a' := ?_) #[true, true, true, true, true, true, true, true, true, true, true, true, true, true, false, false, false] rfl rfl (any_of HT_.out (by kernel_rfl)) (fun _ _ _ h => h) (Or.inr ⟨by rfl, rfl⟩) ?_ ?_
          rotate_left
          · simp only [Act.put, List.setIfInBounds_toArray, List.set_cons_zero, List.set_cons_succ]
            rfl
          refine pure_ (i := 14) (N := some 32) (v := undef) (a' := ?_) #[true, true, true, true, true, true, true, true, true, true, true, true, true, true, true, false, false] rfl rfl (any_of HT_.out (by kernel_rfl)) (fun _ _ _ h => h) (Or.inr ⟨by rfl, rfl⟩) ?_ ?_
          rotate_left
          · simp only [Act.put, List.setIfInBounds_toArray, List.set_cons_zero, List.set_cons_succ]
            rfl
          refine pure_ (i := 15) (N := some 33) (v := undef) (a' := ?_) #[true, true, true, true, true, true, true, true, true, true, true, true, true, true, true, true, false] rfl rfl (any_of HT_.out (by kernel_rfl)) (fun _ _ _ h => h) (Or.inr ⟨by rfl, rfl⟩) ?_ ?_
          rotate_left
          · simp only [Act.put, List.setIfInBounds_toArray, List.set_cons_zero, List.set_cons_succ]
            rfl
          refine pure_ (i := 16) (N := some 34) (v := ?_) (a' := ?_) #[true, true, true, true, true, true, true, true, true, true, true, true, true, true, true, true, true] rfl rfl (any_of HT_.out (by kernel_rfl)) (fun _ _ _ h => h) (Or.inl ⟨by rfl, ?_⟩) ?_ ?_
          rotate_left
          · intro w'
            go_simp
            with_reducible rfl
          rotate_left
          · simp only [Act.put, List.setIfInBounds_toArray, List.set_cons_zero, List.set_cons_succ]
            rfl
          refine done_ (done_of HT_.out (by kernel_rfl)) ?_
          have HO2 : Hid _ := own_new HO.out hHeld
          have hat2 := hat.new hHeld
          go_wp2_with fail
          exact ⟨⟨i + 1, by omega, by omega, by go_num, dj, hjl, HJN, OUT.out (fun jp e => by cases e), HO2, hat2⟩, by simp [intOf]; omega⟩
        | succ jp =>
          obtain ⟨x, hx⟩ : ∃ x, dj.getD (jp + 1) 0 = x := ⟨_, rfl⟩
          obtain ⟨y, hy⟩ : ∃ y, dj.getD jp 0 = y := ⟨_, rfl⟩
          obtain ⟨q, hq⟩ : ∃ q : Int, (f x : Int) - f y = q := ⟨_, rfl⟩
          have HX := Lib.hid hx
          have HY := Lib.hid hy
          have HQ := Lib.hid hq
          have HXN := Lib.hid (show x ≤ N from hx ▸ HJN.out (jp + 1))
          have HYN := Lib.hid (show y ≤ N from hy ▸ HJN.out jp)
          have hqd : q < 0 ↔ f x < f y := by omega
          clear hx hy hq
          have hjaz' : (0 : Int) < (jp : Int) + 1 := by omega
          have hjaz : decide ((jp : Int) + 1 > 0) = true := decide_eq_true (by omega)
          have jz : (jp : Int) + 1 < (c.length : Int) := by omega
          have jz1 : (jp : Int) < (c.length : Int) := by omega
          have hwp : IntKind.i64.wrap (jp : Int) = (jp : Int) := by rw [IntKind.wrap_i64]; omega
          have p0 : (0 : Int) ≤ (jp : Int) + 1 := by omega
          have e0 : ((jp : Int) + 1).toNat = jp + 1 := by omega
          by_cases hlv : f x < f y
          · have hqv : q < 0 := hqd.2 hlv
            have HLV := Lib.hid hlv
            clear hqd hlv
            go_wp2_with fail
            refine start_ (n := 17) (S := fun W => New wr W) (ds := []) #[false, false, false, false, false, false, false, false, false, false, false, false, false, false, false, false, false] (by kernel_rfl) rfl rfl (New.refl wr).drew (fun hHeld => ?_); refine with_tabW r195Tab r195Bits (fun HT_ HW_ => ?_)
            generalize wr.drew = wd at hHeld ⊢
            refine pure_ (i := 0) (N := some 18) (v := ?_) (a' := ?_) #[true, false, false, false, false, false, false, false, false, false, false, false, false, false, false, false, false] rfl rfl (any_of HT_.out (by kernel_rfl)) (fun _ _ _ h => h) (Or.inl ⟨by rfl, ?_⟩) ?_ ?_
            rotate_left
            · intro w'
              go_simp
              with_reducible rfl
            rotate_left
            · simp only [Act.put, List.setIfInBounds_toArray, List.set_cons_zero, List.set_cons_succ]
              rfl
            refine pure_ (i := 1) (N := some 19) (v := ?_) (a' := ?_) #[true, true, false, false, false, false, false, false, false, false, false, false, false, false, false, false, false] rfl rfl (any_of HT_.out (by kernel_rfl)) (fun _ _ _ h => h) (Or.inl ⟨by rfl, ?_⟩) ?_ ?_
            rotate_left
            · intro w'
              go_simp
              with_reducible rfl
            rotate_left
            · simp only [Act.put, List.setIfInBounds_toArray, List.set_cons_zero, List.set_cons_succ]
              rfl
            refine pure_ (i := 2) (N := some 20) (v := ?_) (a' := ?_) #[true, true, true, false, false, false, false, false, false, false, false, false, false, false, false, false, false] rfl rfl (any_of HT_.out (by kernel_rfl)) (fun _ _ _ h => h) (Or.inl ⟨by rfl, ?_⟩) ?_ ?_
            rotate_left
            · intro w'
              go_simp
              with_reducible rfl
            rotate_left
            · simp only [Act.put, List.setIfInBounds_toArray, List.set_cons_zero, List.set_cons_succ]
              rfl
            refine pure_ (i := 3) (N := some 21) (v := ?_) (a' := ?_) #[true, true, true, true, false, false, false, false, false, false, false, false, false, false, false, false, false] rfl rfl (any_of HT_.out (by kernel_rfl)) (fun _ _ _ h => h) (Or.inl ⟨by rfl, ?_⟩) ?_ ?_
            rotate_left
            · intro w'
              go_simp
              with_reducible rfl
            rotate_left
            · simp only [Act.put, List.setIfInBounds_toArray, List.set_cons_zero, List.set_cons_succ]
              rfl
            refine pure_ (i := 4) (N := some 22) (v := ?_) (a' := ?_) #[true, true, true, true, true, false, false, false, false, false, false, false, false, false, false, false, false] rfl rfl (any_of HT_.out (by kernel_rfl)) (fun _ _ _ h => h) (Or.inl ⟨by rfl, ?_⟩) ?_ ?_
            rotate_left
            · intro w'
              go_simp
              with_reducible rfl
            rotate_left
            · simp only [Act.put, List.setIfInBounds_toArray, List.set_cons_zero, List.set_cons_succ]
              rfl
            refine pure_ (i := 5) (N := some 23) (v := ?_) (a' := ?_) #[true, true, true, true, true, true, false, false, false, false, false, false, false, false, false, false, false] rfl rfl (any_of HT_.out (by kernel_rfl)) (fun _ _ _ h => h) (Or.inl ⟨by rfl, ?_⟩) ?_ ?_
            rotate_left
            · intro w'
              go_simp
              with_reducible rfl
            rotate_left
            · simp only [Act.put, List.setIfInBounds_toArray, List.set_cons_zero, List.set_cons_succ]
              rfl
            refine pure_ (i := 6) (N := some 24) (v := ?_) (a' := ?_) #[true, true, true, true, true, true, true, false, false, false, false, false, false, false, false, false, false] rfl rfl (any_of HT_.out (by kernel_rfl)) (fun _ _ _ h => h) (Or.inl ⟨by rfl, ?_⟩) ?_ ?_
            rotate_left
            · intro w'
              go_simp
              with_reducible rfl
            rotate_left
            · simp only [Act.put, List.setIfInBounds_toArray, List.set_cons_zero, List.set_cons_succ]
              rfl
            refine pure_ (i := 7) (N := some 25) (v := ?_) (a' := ?_) #[true, true, true, true, true, true, true, true, false, false, false, false, false, false, false, false, false] rfl rfl (any_of HT_.out (by kernel_rfl)) (fun _ _ _ h => h) (Or.inl ⟨by rfl, ?_⟩) ?_ ?_
            rotate_left
            · intro w'
              go_simp
              with_reducible rfl
            rotate_left
            · simp only [Act.put, List.setIfInBounds_toArray, List.set_cons_zero, List.set_cons_succ]
              rfl
            refine pure_ (i := 9) (N := some 27) (v := ?_) (a' := ?_) #[true, true, true, true, true, true, true, true, false, true, false, false, false, false, false, false, false] rfl rfl (any_of HT_.out (by kernel_rfl)) (fun _ _ _ h => h) (Or.inl ⟨by rfl, ?_⟩) ?_ ?_
            rotate_left
            · intro w'
              go_simp
              with_reducible rfl
            rotate_left
            · simp only [Act.put, List.setIfInBounds_toArray, List.set_cons_zero, List.set_cons_succ]
              rfl
            refine pure_ (i := 10) (N := some 28) (v := ?_) (a' := ?_) #[true, true, true, true, true, true, true, true, false, true, true, false, false, false, false, false, false] rfl rfl (any_of HT_.out (by kernel_rfl)) (fun _ _ _ h => h) (Or.inl ⟨by rfl, ?_⟩) ?_ ?_
            rotate_left
            · intro w'
              go_simp
              with_reducible rfl
            rotate_left
            · simp only [Act.put, List.setIfInBounds_toArray, List.set_cons_zero, List.set_cons_succ]
              rfl
            refine pure_ (i := 11) (N := some 29) (v := ?_) (a' := ?_) #[true, true, true, true, true, true, true, true, false, true, true, true, false, false, false, false, false] rfl rfl (any_of HT_.out (by kernel_rfl)) (fun _ _ _ h => h) (Or.inl ⟨by rfl, ?_⟩) ?_ ?_
            rotate_left
            · intro w'
              go_simp
              with_reducible rfl
            rotate_left
            · simp only [Act.put, List.setIfInBounds_toArray, List.set_cons_zero, List.set_cons_succ]
              rfl
            refine pure_ (i := 12) (N := some 30) (v := ?_) (a' := ?_) #[true, true, true, true, true, true, true, true, false, true, true, true, true, false, false, false, false] rfl rfl (any_of HT_.out (by kernel_rfl)) (fun _ _ _ h => h) (Or.inl ⟨by rfl, ?_⟩) ?_ ?_
            rotate_left
            · intro w'
              go_simp
              with_reducible rfl
            rotate_left
            · simp only [Act.put, List.setIfInBounds_toArray, List.set_cons_zero, List.set_cons_succ]
              rfl
            refine take_ (i := 8) (N := some 26) (v := ?_) (a' := ?_) #[true, true, true, true, true, true, true, true, true, true, true, true, true, false, false, false, false] rfl rfl (take_ofW HT_.out HW_.out (by kernel_rfl)) (fun _ _ _ h => h) (Or.inl ⟨by rfl, ?_⟩) hHeld ?_ ?_
            rotate_left
            · intro w' hkt
              have hoW := own_new HO.out hkt
              obtain ⟨g', hg', _, _, hcW, _⟩ := own_cell hoW (by rw [nats_length]; omega)
              cases hg'
              have s0 := hcW (jp + 1) _ (nats_get dj (jp + 1) (by omega))
              have s1 := hcW jp _ (nats_get dj jp (by omega))
              clear hcW hoW
              rw [HX.out] at s0
              rw [HY.out] at s1
              go_simp
              with_reducible rfl
            rotate_left
            · simp only [Act.put, List.setIfInBounds_toArray, List.set_cons_zero, List.set_cons_succ]
              rfl
            refine take_ (i := 13) (N := some 31) (v := ?_) (a' := ?_) #[true, true, true, true, true, true, true, true, true, true, true, true, true, true, false, false, false] rfl rfl (take_ofW HT_.out HW_.out (by kernel_rfl)) (fun _ _ _ h => h) (Or.inl ⟨by rfl, ?_⟩) hHeld ?_ ?_
            rotate_left
            · intro w' hkt
              have hoW := own_new HO.out hkt
              obtain ⟨g', hg', _, _, hcW, _⟩ := own_cell hoW (by rw [nats_length]; omega)
              cases hg'
              have s0 := hcW (jp + 1) _ (nats_get dj (jp + 1) (by omega))
              have s1 := hcW jp _ (nats_get dj jp (by omega))
              clear hcW hoW
              rw [HX.out] at s0
              rw [HY.out] at s1
              go_simp
              with_reducible rfl
            rotate_left
            · simp only [Act.put, List.setIfInBounds_toArray, List.set_cons_zero, List.set_cons_succ]
              rfl
            refine one_ (i := 14) (N := some 32) #[true, true, true, true, true, true, true, true, true, true, true, true, true, true, true, false, false] rfl rfl (one_of HT_.out (by kernel_rfl)) (by decide) (fun K hK => ?_)
            refine call_ 174 #[.int .i64 x, .int .i64 y, p] (by rfl) rfl (by
              have he := enters_ Try.func174 (by kernel_rfl) rfl #[.int .i64 x, .int .i64 y, p]
              unfold execOp
              simp [resolve, Deferred.ofValue, invoke, Act.eval, he]) ?_
            refine (HC.out _ (hat.new hHeld) x y HXN.out HYN.out).mono ?_
            rintro e vx ⟨rfl, hnx⟩
            refine ⟨_, rfl, ?_⟩
            rw [HQ.out]
            refine hK.out _ _ (hHeld.trans hnx) (fun hHeld => ?_)
            clear hK K
            refine norm_ (a' := ?_) ?_ ?_
            rotate_left
            · show Act.put _ (some 32) _ = _
              simp only [Act.put, List.setIfInBounds_toArray, List.set_cons_zero, List.set_cons_succ]
              rfl
            refine pure_ (i := 15) (N := some 33) (v := ?_) (a' := ?_) #[true, true, true, true, true, true, true, true, true, true, true, true, true, true, true, true, false] rfl rfl (any_of HT_.out (by kernel_rfl)) (fun _ _ _ h => h) (Or.inl ⟨by rfl, ?_⟩) ?_ ?_
            rotate_left
            · intro w'
              go_simp
              with_reducible rfl
            rotate_left
            · simp only [Act.put, List.setIfInBounds_toArray, List.set_cons_zero, List.set_cons_succ]
              rfl
            refine pure_ (i := 16) (N := some 34) (v := ?_) (a' := ?_) #[true, true, true, true, true, true, true, true, true, true, true, true, true, true, true, true, true] rfl rfl (any_of HT_.out (by kernel_rfl)) (fun _ _ _ h => h) (Or.inl ⟨by rfl, ?_⟩) ?_ ?_
            rotate_left
            · intro w'
              go_simp
              with_reducible rfl
            rotate_left
            · simp only [Act.put, List.setIfInBounds_toArray, List.set_cons_zero, List.set_cons_succ]
              rfl
            refine done_ (done_of HT_.out (by kernel_rfl)) ?_
            go_wp2_with fail
            have HO2 := own_new HO.out hHeld
            have hat2 : At g w vx := hat.new hHeld
            obtain ⟨g', hg', _, _, hc, hfz⟩ := own_cell HO2 (by rw [nats_length]; omega)
            cases hg'
            have s0 := hc (jp + 1) _ (nats_get dj (jp + 1) (by omega))
            have s1 := hc jp _ (nats_get dj jp (by omega))
            rw [HX.out] at s0
            rw [HY.out] at s1
            have f0 := hfz (jp + 1)
            have f1 := hfz jp
            have hsw : swapL dj jp = (dj.set (jp + 1) y).set jp x := by unfold swapL; rw [HX.out, HY.out]
            have hres := own_set (own_set HO2 (jp + 1) (.int .i64 y)) jp (.int .i64 x)
            have hres2 := own_set (own_set HO2 jp (.int .i64 x)) (jp + 1) (.int .i64 y)
            rw [nats_set, nats_set, ← hsw] at hres
            rw [nats_set, nats_set, List.set_comm _ _ (by omega), ← hsw] at hres2
            have HR := Lib.hid hres
            have HR2 := Lib.hid hres2
            have HSN : Hid (sink f (swapL dj jp) jp = sink f d i) := by
              have h1 := HS.out
              rw [← h1]
              show _ = sink f dj (jp + 1)
              unfold sink
              rw [HX.out, HY.out, if_pos HLV.out]
              cases jp <;> rfl
            have HJN2 : Hid (∀ k, (swapL dj jp).getD k 0 ≤ N) := fun k => swapL_le HJN.out jp k
            have hlen2 := swapL_length dj jp
            rw [hjl] at hlen2
            have HL2 := Lib.hid hlen2
            clear hres hres2 hsw hc hfz HO2 hHeld hlen2
            go_region
            all_goals
              go_wp2
              first
                | exact ⟨⟨jp, by omega, by go_num, swapL dj jp, HL2.out, HJN2, HSN, HR.out.drew, ((hat2.set _ _).set _ _).drew⟩, by simp [intOf] <;> omega⟩
                | exact ⟨⟨jp, by omega, by go_num, swapL dj jp, HL2.out, HJN2, HSN, HR2.out.drew, ((hat2.set _ _).set _ _).drew⟩, by simp [intOf] <;> omega⟩
          · have hqv : ¬ q < 0 := fun h => hlv (hqd.1 h)
            have HLV := Lib.hid hlv
            clear hqd hlv
            go_wp2_with fail
            refine start_ (n := 17) (S := fun W => New wr W) (ds := []) #[false, false, false, false, false, false, false, false, false, false, false, false, false, false, false, false, false] (by kernel_rfl) rfl rfl (New.refl wr).drew (fun hHeld => ?_); refine with_tabW r195Tab r195Bits (fun HT_ HW_ => ?_)
            generalize wr.drew = wd at hHeld ⊢
            refine pure_ (i := 0) (N := some 18) (v := ?_) (a' := ?_) #[true, false, false, false, false, false, false, false, false, false, false, false, false, false, false, false, false] rfl rfl (any_of HT_.out (by kernel_rfl)) (fun _ _ _ h => h) (Or.inl ⟨by rfl, ?_⟩) ?_ ?_
            rotate_left
            · intro w'
              go_simp
              with_reducible rfl
            rotate_left
            · simp only [Act.put, List.setIfInBounds_toArray, List.set_cons_zero, List.set_cons_succ]
              rfl
            refine pure_ (i := 1) (N := some 19) (v := ?_) (a' := ?_) #[true, true, false, false, false, false, false, false, false, false, false, false, false, false, false, false, false] rfl rfl (any_of HT_.out (by kernel_rfl)) (fun _ _ _ h => h) (Or.inl ⟨by rfl, ?_⟩) ?_ ?_
            rotate_left
            · intro w'
              go_simp
              with_reducible rfl
            rotate_left
            · simp only [Act.put, List.setIfInBounds_toArray, List.set_cons_zero, List.set_cons_succ]
              rfl
            refine pure_ (i := 2) (N := some 20) (v := ?_) (a' := ?_) #[true, true, true, false, false, false, false, false, false, false, false, false, false, false, false, false, false] rfl rfl (any_of HT_.out (by kernel_rfl)) (fun _ _ _ h => h) (Or.inl ⟨by rfl, ?_⟩) ?_ ?_
            rotate_left
            · intro w'
              go_simp
              with_reducible rfl
            rotate_left
            · simp only [Act.put, List.setIfInBounds_toArray, List.set_cons_zero, List.set_cons_succ]
              rfl
            refine pure_ (i := 3) (N := some 21) (v := ?_) (a' := ?_) #[true, true, true, true, false, false, false, false, false, false, false, false, false, false, false, false, false] rfl rfl (any_of HT_.out (by kernel_rfl)) (fun _ _ _ h => h) (Or.inl ⟨by rfl, ?_⟩) ?_ ?_
            rotate_left
            · intro w'
              go_simp
              with_reducible rfl
            rotate_left
            · simp only [Act.put, List.setIfInBounds_toArray, List.set_cons_zero, List.set_cons_succ]
              rfl
            refine pure_ (i := 4) (N := some 22) (v := ?_) (a' := ?_) #[true, true, true, true, true, false, false, false, false, false, false, false, false, false, false, false, false] rfl rfl (any_of HT_.out (by kernel_rfl)) (fun _ _ _ h => h) (Or.inl ⟨by rfl, ?_⟩) ?_ ?_
            rotate_left
            · intro w'
              go_simp
              with_reducible rfl
            rotate_left
            · simp only [Act.put, List.setIfInBounds_toArray, List.set_cons_zero, List.set_cons_succ]
              rfl
            refine pure_ (i := 5) (N := some 23) (v := ?_) (a' := ?_) #[true, true, true, true, true, true, false, false, false, false, false, false, false, false, false, false, false] rfl rfl (any_of HT_.out (by kernel_rfl)) (fun _ _ _ h => h) (Or.inl ⟨by rfl, ?_⟩) ?_ ?_
            rotate_left
            · intro w'
              go_simp
              with_reducible rfl
            rotate_left
            · simp only [Act.put, List.setIfInBounds_toArray, List.set_cons_zero, List.set_cons_succ]
              rfl
            refine pure_ (i := 6) (N := some 24) (v := ?_) (a' := ?_) #[true, true, true, true, true, true, true, false, false, false, false, false, false, false, false, false, false] rfl rfl (any_of HT_.out (by kernel_rfl)) (fun _ _ _ h => h) (Or.inl ⟨by rfl, ?_⟩) ?_ ?_
            rotate_left
            · intro w'
              go_simp
              with_reducible rfl
            rotate_left
            · simp only [Act.put, List.setIfInBounds_toArray, List.set_cons_zero, List.set_cons_succ]
              rfl
            refine pure_ (i := 7) (N := some 25) (v := ?_) (a' := ?_) #[true, true, true, true, true, true, true, true, false, false, false, false, false, false, false, false, false] rfl rfl (any_of HT_.out (by kernel_rfl)) (fun _ _ _ h => h) (Or.inl ⟨by rfl, ?_⟩) ?_ ?_
            rotate_left
            · intro w'
              go_simp
              with_reducible rfl
            rotate_left
            · simp only [Act.put, List.setIfInBounds_toArray, List.set_cons_zero, List.set_cons_succ]
              rfl
            refine pure_ (i := 9) (N := some 27) (v := ?_) (a' := ?_) #[true, true, true, true, true, true, true, true, false, true, false, false, false, false, false, false, false] rfl rfl (any_of HT_.out (by kernel_rfl)) (fun _ _ _ h => h) (Or.inl ⟨by rfl, ?_⟩) ?_ ?_
            rotate_left
            · intro w'
              go_simp
              with_reducible rfl
            rotate_left
            · simp only [Act.put, List.setIfInBounds_toArray, List.set_cons_zero, List.set_cons_succ]
              rfl
            refine pure_ (i := 10) (N := some 28) (v := ?_) (a' := ?_) #[true, true, true, true, true, true, true, true, false, true, true, false, false, false, false, false, false] rfl rfl (any_of HT_.out (by kernel_rfl)) (fun _ _ _ h => h) (Or.inl ⟨by rfl, ?_⟩) ?_ ?_
            rotate_left
            · intro w'
              go_simp
              with_reducible rfl
            rotate_left
            · simp only [Act.put, List.setIfInBounds_toArray, List.set_cons_zero, List.set_cons_succ]
              rfl
            refine pure_ (i := 11) (N := some 29) (v := ?_) (a' := ?_) #[true, true, true, true, true, true, true, true, false, true, true, true, false, false, false, false, false] rfl rfl (any_of HT_.out (by kernel_rfl)) (fun _ _ _ h => h) (Or.inl ⟨by rfl, ?_⟩) ?_ ?_
            rotate_left
            · intro w'
              go_simp
              with_reducible rfl
            rotate_left
            · simp only [Act.put, List.setIfInBounds_toArray, List.set_cons_zero, List.set_cons_succ]
              rfl
            refine pure_ (i := 12) (N := some 30) (v := ?_) (a' := ?_) #[true, true, true, true, true, true, true, true, false, true, true, true, true, false, false, false, false] rfl rfl (any_of HT_.out (by kernel_rfl)) (fun _ _ _ h => h) (Or.inl ⟨by rfl, ?_⟩) ?_ ?_
            rotate_left
            · intro w'
              go_simp
              with_reducible rfl
            rotate_left
            · simp only [Act.put, List.setIfInBounds_toArray, List.set_cons_zero, List.set_cons_succ]
              rfl
            refine take_ (i := 8) (N := some 26) (v := ?_) (a' := ?_) #[true, true, true, true, true, true, true, true, true, true, true, true, true, false, false, false, false] rfl rfl (take_ofW HT_.out HW_.out (by kernel_rfl)) (fun _ _ _ h => h) (Or.inl ⟨by rfl, ?_⟩) hHeld ?_ ?_
            rotate_left
            · intro w' hkt
              have hoW := own_new HO.out hkt
              obtain ⟨g', hg', _, _, hcW, _⟩ := own_cell hoW (by rw [nats_length]; omega)
              cases hg'
              have s0 := hcW (jp + 1) _ (nats_get dj (jp + 1) (by omega))
              have s1 := hcW jp _ (nats_get dj jp (by omega))
              clear hcW hoW
              rw [HX.out] at s0
              rw [HY.out] at s1
              go_simp
              with_reducible rfl
            rotate_left
            · simp only [Act.put, List.setIfInBounds_toArray, List.set_cons_zero, List.set_cons_succ]
              rfl
            refine take_ (i := 13) (N := some 31) (v := ?_) (a' := ?_) #[true, true, true, true, true, true, true, true, true, true, true, true, true, true, false, false, false] rfl rfl (take_ofW HT_.out HW_.out (by kernel_rfl)) (fun _ _ _ h => h) (Or.inl ⟨by rfl, ?_⟩) hHeld ?_ ?_
            rotate_left
            · intro w' hkt
              have hoW := own_new HO.out hkt
              obtain ⟨g', hg', _, _, hcW, _⟩ := own_cell hoW (by rw [nats_length]; omega)
              cases hg'
              have s0 := hcW (jp + 1) _ (nats_get dj (jp + 1) (by omega))
              have s1 := hcW jp _ (nats_get dj jp (by omega))
              clear hcW hoW
              rw [HX.out] at s0
              rw [HY.out] at s1
              go_simp
              with_reducible rfl
            rotate_left
            · simp only [Act.put, List.setIfInBounds_toArray, List.set_cons_zero, List.set_cons_succ]
              rfl
            refine one_ (i := 14) (N := some 32) #[true, true, true, true, true, true, true, true, true, true, true, true, true, true, true, false, false] rfl rfl (one_of HT_.out (by kernel_rfl)) (by decide) (fun K hK => ?_)
            refine call_ 174 #[.int .i64 x, .int .i64 y, p] (by rfl) rfl (by
              have he := enters_ Try.func174 (by kernel_rfl) rfl #[.int .i64 x, .int .i64 y, p]
              unfold execOp
              simp [resolve, Deferred.ofValue, invoke, Act.eval, he]) ?_
            refine (HC.out _ (hat.new hHeld) x y HXN.out HYN.out).mono ?_
            rintro e vx ⟨rfl, hnx⟩
            refine ⟨_, rfl, ?_⟩
            rw [HQ.out]
            refine hK.out _ _ (hHeld.trans hnx) (fun hHeld => ?_)
            clear hK K
            refine norm_ (a' := ?_) ?_ ?_
            rotate_left
            · show Act.put _ (some 32) _ = _
              simp only [Act.put, List.setIfInBounds_toArray, List.set_cons_zero, List.set_cons_succ]
              rfl
            refine pure_ (i := 15) (N := some 33) (v := ?_) (a' := ?_) #[true, true, true, true, true, true, true, true, true, true, true, true, true, true, true, true, false] rfl rfl (any_of HT_.out (by kernel_rfl)) (fun _ _ _ h => h) (Or.inl ⟨by rfl, ?_⟩) ?_ ?_
            rotate_left
            · intro w'
              go_simp
              with_reducible rfl
            rotate_left
            · simp only [Act.put, List.setIfInBounds_toArray, List.set_cons_zero, List.set_cons_succ]
              rfl
            refine pure_ (i := 16) (N := some 34) (v := ?_) (a' := ?_) #[true, true, true, true, true, true, true, true, true, true, true, true, true, true, true, true, true] rfl rfl (any_of HT_.out (by kernel_rfl)) (fun _ _ _ h => h) (Or.inl ⟨by rfl, ?_⟩) ?_ ?_
            rotate_left
            · intro w'
              go_simp
              with_reducible rfl
            rotate_left
            · simp only [Act.put, List.setIfInBounds_toArray, List.set_cons_zero, List.set_cons_succ]
              rfl
            refine done_ (done_of HT_.out (by kernel_rfl)) ?_
            go_wp2_with fail
            have HO2 := own_new HO.out hHeld
            have hat2 : At g w vx := hat.new hHeld
            exact ⟨⟨i + 1, by omega, by omega, by go_num, dj, hjl, HJN, OUT.out (fun jp' e => by cases e; rw [HX.out, HY.out]; exact HLV.out), HO2, hat2⟩, by simp [intOf]; omega⟩
    · have hltz : ¬ (i : Int) < c.length := by omega
      go_wp2_with fail
      have h1 := HD.out
      refine ⟨rfl, .tuple #[], results_none rfl _ _ _, rfl, ?_, hato⟩
      have h2 := HDO.out
      rw [h1] at h2
      by_cases h0 : c.length = 0
      · have e : insTo f c (i - 1) = insTo f c (c.length - 1) := by
          have e1 : i = 1 := by omega
          rw [e1, h0]
        rwa [e] at h2
      · rwa [show i - 1 = c.length - 1 by omega] at h2
end Go.Proofs.Ytapfihlgemejiaa
-- slices.SortStableFunc at nine elements or fewer; reduce.round.
namespace Go.Proofs.Ytapfihlgemejiaa
open Go.RowKit

/-- What the sort is told and what it answers. -/
def SortPost (base g cap : Nat) (c d : List Nat) (w : World) (e : Ending) (w' : World) : Prop :=
  e = .returned (.tuple #[]) ∧ w'.ownsRow base 3 1 (.slice (some ⟨g, 0, none⟩) c.length cap) c.length (nats d) ∧ At g w w'
set_option maxHeartbeats 1000000 in
theorem stable_any (g cap n : Nat) (v : Value) (w : World) (hl : n ≤ 9) (Q : Ending → World → Prop) (hQ : ∀ e w', Q e w' → e = .returned (.tuple #[]))
    (hi : Calls Try.prog 195 #[.slice (some ⟨g, 0, none⟩) n cap, .int .i64 0, .int .i64 n, v] w Q) :
    Calls Try.prog 190 #[.slice (some ⟨g, 0, none⟩) n cap, .int .i64 n, v] w Q := by
  have HI := Lib.hid hi
  have HQ := Lib.hid hQ
  clear hi hQ
  go_enter Try.func190, Try.ntmps190
  go_wp2_with fail
  refine wp_loop_rounds 1 ?_
  rw [rounds_succ]
  go_wp2_with fail
  refine HI.out.mono ?_
  intro e w' hq
  have he := HQ.out e w' hq
  subst he
  have HP := Lib.hid hq
  clear hq
  go_wp2_with fail
  refine wp_loop_rounds 1 ?_
  rw [rounds_succ]
  go_wp2_with fail
  exact ⟨rfl, .tuple #[], results_none rfl _ _ _, HP.out⟩
set_option maxHeartbeats 1000000 in
theorem sort_any (g cap n : Nat) (v : Value) (w : World) (hl : n ≤ 9) (Q : Ending → World → Prop) (hQ : ∀ e w', Q e w' → e = .returned (.tuple #[]))
    (hi : Calls Try.prog 195 #[.slice (some ⟨g, 0, none⟩) n cap, .int .i64 0, .int .i64 n, v] w Q) :
    Calls Try.prog 173 #[.slice (some ⟨g, 0, none⟩) n cap, v] w Q := by
  have HI := Lib.hid (stable_any g cap n v w hl Q hQ hi)
  have HQ := Lib.hid hQ
  clear hi hQ
  go_enter Try.func173, Try.ntmps173
  go_wp2_with fail
  refine HI.out.mono ?_
  intro e w' hq
  have he := HQ.out e w' hq
  subst he
  have HP := Lib.hid hq
  clear hq
  go_wp2_with fail
  exact ⟨rfl, .tuple #[], results_none rfl _ _ _, HP.out⟩

theorem rankI_le (Z : List Int) (x : Nat) : rankI Z x ≤ 2 := by unfold rankI; repeat (first | omega | split)
theorem roundL_length (Z : List Int) (c : List Nat) : (roundL Z c).length = c.length := by
  by_cases h : c.getD 0 0 = 0
  · rw [roundL_eq Z c h, byRank_length _ (rankI_le Z)]
  · unfold roundL; rw [if_neg h]
set_option maxRecDepth 100000 in
set_option maxHeartbeats 4000000 in
theorem round_any (b : Nat) (z : Zn) (A : Option Addr) (cap : Nat) (c : List Nat) (w : World) (h : ZoneAt w b z) (hA : Elems w w.heap.size A (nats c)) (hc : ∀ i, c.getD i 0 ≤ z.n) (h0 : 0 < c.length) (hl : c.length ≤ 9) :
    Calls Try.prog 141 #[.agg #[.pointer (some ⟨b, 0, none⟩)], .slice A c.length cap] w fun e w' => ∃ A' c', e = .returned (.slice A' c.length c') ∧ w'.ownsRow w.heap.size 3 1 (.slice A' c.length c') c.length (nats (roundL z.Z c)) ∧ New w w' := by
  have hln : (nats c).length = c.length := nats_length c
  have CL := Lib.hid (clone_ints A cap (nats c) (w.alloc (.cells #[.pointer (some ⟨b, 0, none⟩)] 196)) ((hA.new ((New.refl w).alloc _) (Nat.le_refl _)).mono (by simp)) (by intro u hu; simp [nats] at hu; obtain ⟨x, _, rfl⟩ := hu; rfl) (by omega))
  rw [hln] at CL
  have hbl := h.row.lt
  have HZ := Lib.hid h
  have HC := Lib.hid hc
  clear h hA hc hln
  go_enter Try.func141, Try.ntmps141
  go_wp2_with fail
  refine CL.out.mono ?_
  rintro e w1 ⟨A1, c1, rfl, ho, hn1⟩
  obtain ⟨g, hg, hgb, hgl, hcl, _⟩ := own_cell ho (by rw [nats_length]; omega)
  subst hg
  have s0 := hcl 0 _ (nats_get c 0 h0)
  have R1 := hn1.row (Row.new_at w 196 [.pointer (some ⟨b, 0, none⟩)] rfl)
  have N1 := Lib.hid (((New.refl w).alloc _).trans hn1)
  have HO := Lib.hid ho
  have hln : (0 : Int) < c.length := by omega
  clear ho hcl hn1 CL
  by_cases hz : c.getD 0 0 = 0
  · have hzz : ((c.getD 0 0 : Nat) : Int) = 0 := by omega
    rw [hzz] at s0
    have HE := Lib.hid (roundL_eq z.Z c hz)
    have HR1 := Lib.hid R1
    clear hz hzz R1
    have hho := own_new HO.out ((New.refl w1).alloc (.cells #[.func (.func 172) #[] #[.pointer (some ⟨w.heap.size, 0, none⟩)]] 34))
    have hS := sort_any g c1 c.length (.func (.func 174) #[] #[.pointer (some ⟨w1.heap.size, 0, none⟩)]) (w1.alloc (.cells #[.func (.func 172) #[] #[.pointer (some ⟨w.heap.size, 0, none⟩)]] 34)) hl
      (SortPost w.heap.size g c1 c (byRank (rankI z.Z) c) (w1.alloc (.cells #[.func (.func 172) #[] #[.pointer (some ⟨w.heap.size, 0, none⟩)]] 34))) (fun _ _ h => h.1)
      ((insertion_any w.heap.size g c1 c z.n (rankI z.Z) (.pointer (some ⟨w1.heap.size, 0, none⟩)) _ ⟨hho.1, (own_lower hho (by simp)).2⟩ hl HC.out (rankI_le z.Z) (fun W hW x y hx hy => by
        have hgb1 : w.heap.size + 1 ≤ g := by simpa using hgb
        have hN1 := N1.out
        refine cmpRank_any b x y w.heap.size w1.heap.size z W ?_ hx hy ?_ ?_
        · exact ((HZ.out.new hN1).new ((New.refl w1).alloc _)).fr hW (by show ¬ b = g; omega)
        · exact Fr.row hW (HR1.out.alloc _) (by show ¬ w.heap.size = g; omega)
        · exact Fr.row hW (Row.new w1 34 _) (by show ¬ w1.heap.size = g; omega))).mono (fun e w' hh => by
          rw [insTo_all _ (rankI_le z.Z) c (by intro e; subst e; simp at h0)] at hh
          exact hh))
    have HS := Lib.hid hS
    clear hho hS
    go_wp2_with fail
    refine HS.out.mono ?_
    rintro e w2 ⟨rfl, ho2, hat2⟩
    rw [← HE.out] at ho2
    have HO2 := Lib.hid ho2
    clear ho2 HS
    go_wp2_with fail
    go_ret
    have hgb1 : w.heap.size + 1 ≤ g := by simpa using hgb
    exact ⟨_, _, rfl, HO2.out, New.at_ (N1.out.alloc _) hat2 (by omega)⟩
  · have hzz : ¬ ((c.getD 0 0 : Nat) : Int) = 0 := by omega
    have HE : Hid (roundL z.Z c = c) := by show roundL z.Z c = c; unfold roundL; rw [if_neg hz]
    generalize ((c.getD 0 0 : Nat) : Int) = x at s0 hzz
    clear hz
    go_wp2_with fail
    go_ret
    exact ⟨_, _, rfl, by rw [HE.out]; exact ⟨HO.out.1, (own_lower HO.out (by simp)).2⟩, N1.out⟩
end Go.Proofs.Ytapfihlgemejiaa
