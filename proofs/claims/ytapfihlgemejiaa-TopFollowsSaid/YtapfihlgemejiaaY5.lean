/- Walks over package ops: open. -/
import Derived.Test.YtapfihlgemejiaaC0
import Derived.Test.YtapfihlgemejiaaD5
import Derived.Test.YtapfihlgemejiaaD3
namespace Go.Proofs.Ytapfihlgemejiaa
open Go.RowKit Go.Proofs.YtapfihlgemejiaaW.PrintLast
def r118T : Bool × List (List Nat × List Nat) := (true, [([], []), ([], []), ([], []), ([2], [2]), ([3], [3]), ([4], [4]), ([5], [5]), ([6], [6]), ([1, 7], [1, 7]), ([], []), ([], []), ([10], [10]), ([11], [11]), ([12], [12]), ([13], [13]), ([14], [14]), ([9, 15], [9, 15]), ([], []), ([0], [0]), ([18], [18]), ([19, 8], [8, 19]), ([20, 16, 0, 1, 2, 3, 4, 5, 6, 7, 8, 9, 10, 11, 12, 13, 14, 15, 16, 17], [16, 20]), ([21, 17, 0, 1, 2, 3, 4, 5, 6, 7, 8, 9, 10, 11, 12, 13, 14, 15, 16, 17], [17, 21])])
def r118B : List Nat := [0, 0, 0, 4, 12, 28, 60, 124, 254, 0, 0, 1024, 3072, 7168, 15360, 31744, 65024, 0, 1, 262145, 786943, 2097151, 4194303]
theorem r118Tab : rtab .any (opsOf Try.f118 5) = r118T := by kernel_rfl
theorem r118Bits : waitsOk r118T.2 r118B = true := by kernel_rfl
/-- The cells of a zone, laid out anew. -/
def fillC (n : Nat) (cells : List Int) (k : Nat) (L : List Int) : List Int := st L (9 * (k / (n + 1)) + k % (n + 1)) (gt cells k)
theorem fillC_length (n : Nat) (cells : List Int) (k : Nat) (L : List Int) : (fillC n cells k L).length = L.length := st_length _ _ _
def openW (z : Zn) : List Int := lp (fillC z.n (cellsOf z)) (cellsOf z).length zeros
theorem openW_length (z : Zn) : (openW z).length = 81 := lp_length _ (fun i L => fillC_length _ _ i L) _ _
theorem own_int_at {w : World} {base : Nat} {A : Option Addr} {c : Nat} {l : List Int} (h : w.ownsRow base 76 1 (.slice A l.length c) l.length (ints32 l)) (k : Nat) (hk : k < l.length) :
    ∃ g, A = some ⟨g, 0, none⟩ ∧ w.cell? ⟨g, k, none⟩ = some (.int .i32 (gt l k)) := by
  obtain ⟨g, h1, _, _, h4, _⟩ := own_cell h (by rw [ints32_length]; omega)
  refine ⟨g, h1, h4 k _ ?_⟩
  unfold ints32 gt
  rw [List.getElem?_map, List.getElem?_eq_getElem hk, List.getD_eq_getElem?_getD, List.getElem?_eq_getElem hk]; rfl
theorem frame_new (w : World) (n : Int) : Row (w.alloc (.cells (Try.zeroCells183.setIfInBounds 0 (.int .i64 n)) 183)) w.heap.size 183 (zoneRow n zeros) := by
  have h : Try.zeroCells183.setIfInBounds 0 (.int .i64 n) = (zoneRow n zeros).toArray := by rfl
  rw [h]; exact Row.new _ _ _

set_option maxRecDepth 100000 in
set_option maxHeartbeats 4000000 in
theorem wopen_any (b : Nat) (z : Zn) (w : World) (h : ZoneAt w b z) :
    Calls Try.prog 118 #[.pointer (some ⟨b, 0, none⟩)] w fun e w' => ∃ g, e = .returned (.pointer (some ⟨g, 0, none⟩)) ∧ w.heap.size ≤ g ∧ Row w' g 183 (zoneRow z.n (openW z)) ∧ New w w' := by
  have HD := Lib.hid (dim_any b z w h)
  have hdim := h.dim
  have H := Lib.hid h
  clear h
  go_enter Try.func118, Try.ntmps118
  go_wp2_with (first | (go_at_call 58; refine HD.out.mono ?_; rintro e w1 ⟨rfl, rfl⟩))
  have HR0 := Lib.hid (frame_new w z.n)
  have hn1 : New w (w.alloc (.cells (Try.zeroCells183.setIfInBounds 0 (.int .i64 (z.n : Int))) 183)) := (New.refl w).alloc _
  generalize w.alloc (.cells (Try.zeroCells183.setIfInBounds 0 (.int .i64 (z.n : Int))) 183) = w1 at *
  have HN1 := Lib.hid hn1
  clear hn1 HD
  refine (cells_any b z w1 (H.out.new HN1.out)).mono ?_
  rintro e w2 ⟨v, rfl, hown, hn2⟩
  obtain ⟨A, c, rfl⟩ := own_form hown
  have HN2 := Lib.hid (HN1.out.trans hn2)
  have HR := Lib.hid (hn2.row HR0.out)
  have HOWN := Lib.hid (own_lower hown HN1.out.size)
  have hlen := cellsOf_length z
  have HLEN := Lib.hid hlen
  have hl81 : (cellsOf z).length ≤ 81 := by
    rw [hlen]
    exact Nat.mul_le_mul (by omega : z.n + 1 ≤ 9) (by omega : z.n + 1 ≤ 9)
  clear hlen hown hn2 HR0 HN1 H
  have HW := Lib.hid (show openW z = lp (fillC z.n (cellsOf z)) (cellsOf z).length zeros from rfl)
  generalize hbase : w.heap.size = g at *
  generalize cellsOf z = cells at *
  generalize hzn : z.n = n at *
  have HZN := Lib.hid hzn
  clear hzn
  go_wp2_with fail
  go_loopw [14] (fun ci wr => ∃ k : Nat, k ≤ cells.length ∧ ci = .int .i64 k ∧ Hid (Row wr g 183 (zoneRow n (lp (fillC n cells) k zeros)) ∧ wr.ownsRow g 76 1 (.slice A cells.length c) cells.length (ints32 cells) ∧ New w wr)) (fun ci _ => cells.length - (intOf ci).toNat)
  case atStart => exact ⟨0, Nat.zero_le _, by go_num, ⟨HR.out, HOWN.out, HN2.out⟩⟩
  case round =>
    obtain ⟨k, hk, rfl, HK⟩ := hrel
    clear HR HOWN HN2
    have HS := Lib.hid (show lp (fillC n cells) (k + 1) zeros = st (lp (fillC n cells) k zeros) (9 * (k / (n + 1)) + k % (n + 1)) (gt cells k) from rfl)
    have HML := Lib.hid (show (lp (fillC n cells) k zeros).length = 81 from lp_length _ (fun i L => fillC_length _ _ i L) _ _)
    generalize hM : lp (fillC n cells) k zeros = M at *
    have HM := Lib.hid hM
    clear hM
    by_cases hlt : k < cells.length
    · have hkz : (k : Int) < cells.length := by omega
      obtain ⟨ga, rfl, q0⟩ := own_int_at HK.out.2.1 k hlt
      have hdiv : k / (n + 1) < n + 1 := div_lt_square HLEN.out hlt
      have hmod : k % (n + 1) < n + 1 := Nat.mod_lt _ (by omega)
      have hwn : IntKind.i64.wrap ((n : Int) + 1) = (n : Int) + 1 := by rw [IntKind.wrap_i64]; omega
      have hn0 : ((n : Int) + 1 = 0) = False := by simp; omega
      have hq1 : IntKind.i64.wrap ((k : Int) / ((n : Int) + 1)) = ((k / (n + 1) : Nat) : Int) := by
        rw [show (n : Int) + 1 = ((n + 1 : Nat) : Int) by omega, ← Int.natCast_ediv, IntKind.wrap_i64]
        have hd9 : k / (n + 1) < 9 := by omega
        clear hmod hdiv
        generalize k / (n + 1) = d at *
        omega
      have hq2 : (k : Int).tmod ((n : Int) + 1) = ((k % (n + 1) : Nat) : Int) := by
        rw [show (n : Int) + 1 = ((n + 1 : Nat) : Int) by omega, Int.ofNat_tmod]
      have hd9 : k / (n + 1) < 9 := by omega
      have hm9 : k % (n + 1) < 9 := by omega
      clear hdiv hmod
      generalize k / (n + 1) = d at *
      generalize k % (n + 1) = m at *
      have hd9z : (d : Int) < 9 := by omega
      have hm9z : (m : Int) < 9 := by omega
      have c0 := HK.out.1
      generalize gt cells k = x at *
      go_wp2_with fail
      refine start_ (n := 23) (S := fun W => Row W g 183 (zoneRow n M) ∧ New wr W) (ds := [22]) #[false, false, false, false, false, false, false, false, false, false, false, false, false, false, false, false, false, false, false, false, false, false, false] (by kernel_rfl) rfl rfl ⟨HK.out.1.drew, (New.refl wr).drew⟩ (fun hHeld => ?_); refine with_tabW r118Tab r118Bits (fun HT_ HW_ => ?_)
      have hHeld0 := hHeld
      generalize wr.drew = we at hHeld hHeld0 ⊢
      refine pure_ (i := 0) (N := some 19) (v := ?_) (a' := ?_) #[true, false, false, false, false, false, false, false, false, false, false, false, false, false, false, false, false, false, false, false, false, false, false] rfl rfl (any_of HT_.out (by kernel_rfl)) (fun _ _ _ h => h) (Or.inl ⟨by rfl, ?_⟩) ?_ ?_
      rotate_left
      · intro w'
        go_simp
        with_reducible rfl
      rotate_left
      · simp only [Act.put, List.setIfInBounds_toArray, List.set_cons_zero, List.set_cons_succ]
        rfl
      refine pure_ (i := 1) (N := some 20) (v := ?_) (a' := ?_) #[true, true, false, false, false, false, false, false, false, false, false, false, false, false, false, false, false, false, false, false, false, false, false] rfl rfl (any_of HT_.out (by kernel_rfl)) (fun _ _ _ h => h) (Or.inl ⟨by rfl, ?_⟩) ?_ ?_
      rotate_left
      · intro w'
        go_simp
        with_reducible rfl
      rotate_left
      · simp only [Act.put, List.setIfInBounds_toArray, List.set_cons_zero, List.set_cons_succ]
        rfl
      refine pure_ (i := 2) (N := some 21) (v := ?_) (a' := ?_) #[true, true, true, false, false, false, false, false, false, false, false, false, false, false, false, false, false, false, false, false, false, false, false] rfl rfl (any_of HT_.out (by kernel_rfl)) (fun _ _ _ h => h) (Or.inl ⟨by rfl, ?_⟩) ?_ ?_
      rotate_left
      · intro w'
        go_simp
        with_reducible rfl
      rotate_left
      · simp only [Act.put, List.setIfInBounds_toArray, List.set_cons_zero, List.set_cons_succ]
        rfl
      refine pure_ (i := 3) (N := some 22) (v := ?_) (a' := ?_) #[true, true, true, true, false, false, false, false, false, false, false, false, false, false, false, false, false, false, false, false, false, false, false] rfl rfl (any_of HT_.out (by kernel_rfl)) (fun _ _ _ h => h) (Or.inl ⟨by rfl, ?_⟩) ?_ ?_
      rotate_left
      · intro w'
        go_simp
        with_reducible rfl
      rotate_left
      · simp only [Act.put, List.setIfInBounds_toArray, List.set_cons_zero, List.set_cons_succ]
        rfl
      refine pure_ (i := 4) (N := some 23) (v := ?_) (a' := ?_) #[true, true, true, true, true, false, false, false, false, false, false, false, false, false, false, false, false, false, false, false, false, false, false] rfl rfl (any_of HT_.out (by kernel_rfl)) (fun _ _ _ h => h) (Or.inl ⟨by rfl, ?_⟩) ?_ ?_
      rotate_left
      · intro w'
        go_simp
        with_reducible rfl
      rotate_left
      · simp only [Act.put, List.setIfInBounds_toArray, List.set_cons_zero, List.set_cons_succ]
        rfl
      refine pure_ (i := 5) (N := some 24) (v := ?_) (a' := ?_) #[true, true, true, true, true, true, false, false, false, false, false, false, false, false, false, false, false, false, false, false, false, false, false] rfl rfl (any_of HT_.out (by kernel_rfl)) (fun _ _ _ h => h) (Or.inl ⟨by rfl, ?_⟩) ?_ ?_
      rotate_left
      · intro w'
        go_simp
        with_reducible rfl
      rotate_left
      · simp only [Act.put, List.setIfInBounds_toArray, List.set_cons_zero, List.set_cons_succ]
        rfl
      refine pure_ (i := 9) (N := some 28) (v := ?_) (a' := ?_) #[true, true, true, true, true, true, false, false, false, true, false, false, false, false, false, false, false, false, false, false, false, false, false] rfl rfl (any_of HT_.out (by kernel_rfl)) (fun _ _ _ h => h) (Or.inl ⟨by rfl, ?_⟩) ?_ ?_
      rotate_left
      · intro w'
        go_simp
        with_reducible rfl
      rotate_left
      · simp only [Act.put, List.setIfInBounds_toArray, List.set_cons_zero, List.set_cons_succ]
        rfl
      refine pure_ (i := 10) (N := some 29) (v := ?_) (a' := ?_) #[true, true, true, true, true, true, false, false, false, true, true, false, false, false, false, false, false, false, false, false, false, false, false] rfl rfl (any_of HT_.out (by kernel_rfl)) (fun _ _ _ h => h) (Or.inl ⟨by rfl, ?_⟩) ?_ ?_
      rotate_left
      · intro w'
        go_simp
        with_reducible rfl
      rotate_left
      · simp only [Act.put, List.setIfInBounds_toArray, List.set_cons_zero, List.set_cons_succ]
        rfl
      refine pure_ (i := 11) (N := some 30) (v := ?_) (a' := ?_) #[true, true, true, true, true, true, false, false, false, true, true, true, false, false, false, false, false, false, false, false, false, false, false] rfl rfl (any_of HT_.out (by kernel_rfl)) (fun _ _ _ h => h) (Or.inl ⟨by rfl, ?_⟩) ?_ ?_
      rotate_left
      · intro w'
        go_simp
        with_reducible rfl
      rotate_left
      · simp only [Act.put, List.setIfInBounds_toArray, List.set_cons_zero, List.set_cons_succ]
        rfl
      refine pure_ (i := 12) (N := some 31) (v := ?_) (a' := ?_) #[true, true, true, true, true, true, false, false, false, true, true, true, true, false, false, false, false, false, false, false, false, false, false] rfl rfl (any_of HT_.out (by kernel_rfl)) (fun _ _ _ h => h) (Or.inl ⟨by rfl, ?_⟩) ?_ ?_
      rotate_left
      · intro w'
        go_simp
        with_reducible rfl
      rotate_left
      · simp only [Act.put, List.setIfInBounds_toArray, List.set_cons_zero, List.set_cons_succ]
        rfl
      refine pure_ (i := 13) (N := some 32) (v := ?_) (a' := ?_) #[true, true, true, true, true, true, false, false, false, true, true, true, true, true, false, false, false, false, false, false, false, false, false] rfl rfl (any_of HT_.out (by kernel_rfl)) (fun _ _ _ h => h) (Or.inl ⟨by rfl, ?_⟩) ?_ ?_
      rotate_left
      · intro w'
        go_simp
        with_reducible rfl
      rotate_left
      · simp only [Act.put, List.setIfInBounds_toArray, List.set_cons_zero, List.set_cons_succ]
        rfl
      refine pure_ (i := 17) (N := some 36) (v := ?_) (a' := ?_) #[true, true, true, true, true, true, false, false, false, true, true, true, true, true, false, false, false, true, false, false, false, false, false] rfl rfl (any_of HT_.out (by kernel_rfl)) (fun _ _ _ h => h) (Or.inl ⟨by rfl, ?_⟩) ?_ ?_
      rotate_left
      · intro w'
        go_simp
        with_reducible rfl
      rotate_left
      · simp only [Act.put, List.setIfInBounds_toArray, List.set_cons_zero, List.set_cons_succ]
        rfl
      refine pure_ (i := 18) (N := some 37) (v := ?_) (a' := ?_) #[true, true, true, true, true, true, false, false, false, true, true, true, true, true, false, false, false, true, true, false, false, false, false] rfl rfl (any_of HT_.out (by kernel_rfl)) (fun _ _ _ h => h) (Or.inl ⟨by rfl, ?_⟩) ?_ ?_
      rotate_left
      · intro w'
        go_simp
        with_reducible rfl
      rotate_left
      · simp only [Act.put, List.setIfInBounds_toArray, List.set_cons_zero, List.set_cons_succ]
        rfl
      refine pure_ (i := 19) (N := some 38) (v := ?_) (a' := ?_) #[true, true, true, true, true, true, false, false, false, true, true, true, true, true, false, false, false, true, true, true, false, false, false] rfl rfl (any_of HT_.out (by kernel_rfl)) (fun _ _ _ h => h) (Or.inl ⟨by rfl, ?_⟩) ?_ ?_
      rotate_left
      · intro w'
        go_simp
        with_reducible rfl
      rotate_left
      · simp only [Act.put, List.setIfInBounds_toArray, List.set_cons_zero, List.set_cons_succ]
        rfl
      refine take_ (i := 6) (N := some 25) (v := ?_) (a' := ?_) #[true, true, true, true, true, true, true, false, false, true, true, true, true, true, false, false, false, true, true, true, false, false, false] rfl rfl (take_ofW HT_.out HW_.out (by kernel_rfl)) (fun _ _ _ h => h) (Or.inl ⟨by rfl, ?_⟩) hHeld ?_ ?_
      rotate_left
      · intro w' hkt
        have s0 := zone_dim hkt.1
        go_simp
        with_reducible rfl
      rotate_left
      · simp only [Act.put, List.setIfInBounds_toArray, List.set_cons_zero, List.set_cons_succ]
        rfl
      refine pure_ (i := 7) (N := some 26) (v := ?_) (a' := ?_) #[true, true, true, true, true, true, true, true, false, true, true, true, true, true, false, false, false, true, true, true, false, false, false] rfl rfl (any_of HT_.out (by kernel_rfl)) (fun _ _ _ h => h) (Or.inl ⟨by rfl, ?_⟩) ?_ ?_
      rotate_left
      · intro w'
        go_simp
        with_reducible rfl
      rotate_left
      · simp only [Act.put, List.setIfInBounds_toArray, List.set_cons_zero, List.set_cons_succ]
        rfl
      refine pure_ (i := 8) (N := some 27) (v := ?_) (a' := ?_) #[true, true, true, true, true, true, true, true, true, true, true, true, true, true, false, false, false, true, true, true, false, false, false] rfl rfl (any_of HT_.out (by kernel_rfl)) (fun _ _ _ h => h) (Or.inl ⟨by rfl, ?_⟩) ?_ ?_
      rotate_left
      · intro w'
        go_simp
        with_reducible rfl
      rotate_left
      · simp only [Act.put, List.setIfInBounds_toArray, List.set_cons_zero, List.set_cons_succ]
        rfl
      refine pure_ (i := 20) (N := some 39) (v := ?_) (a' := ?_) #[true, true, true, true, true, true, true, true, true, true, true, true, true, true, false, false, false, true, true, true, true, false, false] rfl rfl (any_of HT_.out (by kernel_rfl)) (fun _ _ _ h => h) (Or.inl ⟨by rfl, ?_⟩) ?_ ?_
      rotate_left
      · intro w'
        go_simp
        with_reducible rfl
      rotate_left
      · simp only [Act.put, List.setIfInBounds_toArray, List.set_cons_zero, List.set_cons_succ]
        rfl
      refine take_ (i := 14) (N := some 33) (v := ?_) (a' := ?_) #[true, true, true, true, true, true, true, true, true, true, true, true, true, true, true, false, false, true, true, true, true, false, false] rfl rfl (take_ofW HT_.out HW_.out (by kernel_rfl)) (fun _ _ _ h => h) (Or.inl ⟨by rfl, ?_⟩) hHeld ?_ ?_
      rotate_left
      · intro w' hkt
        have s0 := zone_dim hkt.1
        go_simp
        with_reducible rfl
      rotate_left
      · simp only [Act.put, List.setIfInBounds_toArray, List.set_cons_zero, List.set_cons_succ]
        rfl
      refine pure_ (i := 15) (N := some 34) (v := ?_) (a' := ?_) #[true, true, true, true, true, true, true, true, true, true, true, true, true, true, true, true, false, true, true, true, true, false, false] rfl rfl (any_of HT_.out (by kernel_rfl)) (fun _ _ _ h => h) (Or.inl ⟨by rfl, ?_⟩) ?_ ?_
      rotate_left
      · intro w'
        go_simp
        with_reducible rfl
      rotate_left
      · simp only [Act.put, List.setIfInBounds_toArray, List.set_cons_zero, List.set_cons_succ]
        rfl
      refine pure_ (i := 16) (N := some 35) (v := ?_) (a' := ?_) #[true, true, true, true, true, true, true, true, true, true, true, true, true, true, true, true, true, true, true, true, true, false, false] rfl rfl (any_of HT_.out (by kernel_rfl)) (fun _ _ _ h => h) (Or.inl ⟨by rfl, ?_⟩) ?_ ?_
      rotate_left
      · intro w'
        go_simp
        with_reducible rfl
      rotate_left
      · simp only [Act.put, List.setIfInBounds_toArray, List.set_cons_zero, List.set_cons_succ]
        rfl
      refine pure_ (i := 21) (N := some 40) (v := ?_) (a' := ?_) #[true, true, true, true, true, true, true, true, true, true, true, true, true, true, true, true, true, true, true, true, true, true, false] rfl rfl (any_of HT_.out (by kernel_rfl)) (fun _ _ _ h => h) (Or.inl ⟨by rfl, ?_⟩) ?_ ?_
      rotate_left
      · intro w'
        go_simp
        with_reducible rfl
      rotate_left
      · simp only [Act.put, List.setIfInBounds_toArray, List.set_cons_zero, List.set_cons_succ]
        rfl
      have z0 := zone_at hHeld.1 d m HML.out (by omega) (by omega)
      have z1 := hHeld.1.free (1 + d * 9 + m)
      refine last_ (i := 22) (N := none) #[true, true, true, true, true, true, true, true, true, true, true, true, true, true, true, true, true, true, true, true, true, true, true] rfl rfl (one_of HT_.out (by kernel_rfl)) (by decide) (fun K hK => ?_)
      refine skip_ (w1 := we.setCell ⟨g, 1 + d * 9 + m, none⟩ (.int .i32 x)) (by rfl) rfl (by go_simp) ?_
      refine hK.out _ _ ?_
      clear hK K
      refine done_ (done_of HT_.out (by kernel_rfl)) ?_
      have hs1 := zone_put hHeld.1 d m x
      have hk3 : New w (we.setCell ⟨g, 1 + d * 9 + m, none⟩ (.int .i32 x)) := by
        refine (HK.out.2.2.trans hHeld.2).set (.inr ?_) _
        show w.heap.size ≤ g
        omega
      have hown3 : (we.setCell ⟨g, 1 + d * 9 + m, none⟩ (.int .i32 x)).ownsRow g 76 1 (.slice (some ⟨ga, 0, none⟩) cells.length c) cells.length (ints32 cells) := by
        refine own_keep (own_new HK.out.2.1 hHeld.2) fun j hj => ?_
        refine heap_setCell_other _ _ _ _ (fun e => ?_)
        exact own_ne (own_new HK.out.2.1 hHeld.2) hHeld.1 (by decide) (hj.trans (by rw [e]))
      have HQ := Lib.hid (And.intro hs1 (And.intro hown3 hk3))
      have HL := Lib.hid hlt
      clear hs1 hk3 hown3 hHeld HK
      go_wp2_with fail
      refine ⟨⟨k + 1, HL.out, by go_num, Lib.hid ?_⟩, by have := HL.out; simp [intOf] <;> omega⟩
      rw [HS.out]
      exact HQ.out
    · have e : k = cells.length := by omega
      have hkz : ¬ (k : Int) < cells.length := by omega
      have HE := Lib.hid e
      clear e
      go_wp2_with fail
      go_ret
      refine ⟨g, rfl, Nat.le_refl _, ?_, HK.out.2.2⟩
      rw [HW.out, HZN.out, ← HE.out, HM.out]
      exact HK.out.1
end Go.Proofs.Ytapfihlgemejiaa
