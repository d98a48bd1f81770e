/- Walks over package passed: Waiting and Take. -/
import Derived.Test.YtapfihlgemejiaaVS5
namespace Go.Proofs.Ytapfihlgemejiaa
open Go.RowKit
theorem waits_any (pe o : Nat) (t : Int) (g : Bool) (w : World) (h2 : w.cell? ⟨pe, o + 2, none⟩ = some (.int .i64 t)) (h3 : w.cell? ⟨pe, o + 3, none⟩ = some (.bool g)) :
    Calls Try.prog 88 #[.pointer (some ⟨pe, o, none⟩)] w fun e w' => e = .returned (.bool (!g && decide (t < 0))) ∧ w = w' := by
  cases g with
  | true =>
    go_enter Try.func88, Try.ntmps88
    go_wp2
    go_ret
    exact ⟨rfl, rfl⟩
  | false =>
    go_enter Try.func88, Try.ntmps88
    go_wp2
    go_ret
    exact ⟨rfl, rfl⟩

/-- The first k cells changed for the last k. -/
def swaps (l : List Nat) : Nat → List Nat
  | 0 => l
  | k + 1 => ((swaps l k).set k ((swaps l k).getD (l.length - 1 - k) 0)).set (l.length - 1 - k) ((swaps l k).getD k 0)
theorem swaps_succ (l : List Nat) (k : Nat) : swaps l (k + 1) = ((swaps l k).set k ((swaps l k).getD (l.length - 1 - k) 0)).set (l.length - 1 - k) ((swaps l k).getD k 0) := rfl
theorem swaps_length (l : List Nat) (k : Nat) : (swaps l k).length = l.length := by
  induction k with
  | zero => rfl
  | succ k ih => simp [swaps, ih]
theorem swaps_get (l : List Nat) (k : Nat) (hk : 2 * k ≤ l.length) (j : Nat) (hj : j < l.length) : (swaps l k).getD j 0 = if j < k ∨ l.length - k ≤ j then l.getD (l.length - 1 - j) 0 else l.getD j 0 := by
  induction k generalizing j with
  | zero =>
    rw [if_neg (by omega)]; rfl
  | succ k ih =>
    have ih := fun j hj => ih (by omega) j hj
    have hl := swaps_length l k
    unfold swaps
    rw [List.getD_eq_getElem?_getD, List.getElem?_set, List.getElem?_set, List.length_set, hl]
    by_cases h1 : l.length - 1 - k = j
    · rw [if_pos h1, if_pos (by omega), if_pos (by omega), Option.getD_some, ih k (by omega), if_neg (by omega)]
      congr 1; omega
    · rw [if_neg h1]
      by_cases h2 : k = j
      · rw [if_pos h2, if_pos (by omega), if_pos (by omega), Option.getD_some, ih _ (by omega), if_neg (by omega)]
        congr 1; omega
      · rw [if_neg h2, ← List.getD_eq_getElem?_getD, ih j hj]
        by_cases h3 : j < k ∨ l.length - k ≤ j
        · rw [if_pos h3, if_pos (by omega)]
        · rw [if_neg h3, if_neg (by omega)]
theorem swaps_half (l : List Nat) : swaps l (l.length / 2) = l.reverse := by
  apply List.ext_getElem (by simp [swaps_length])
  intro j h1 h2
  rw [swaps_length] at h1
  have h := swaps_get l (l.length / 2) (by omega) j h1
  rw [List.getD_eq_getElem?_getD, List.getElem?_eq_getElem (by rw [swaps_length]; exact h1), Option.getD_some] at h
  rw [h, List.getElem_reverse]
  split
  · rw [List.getD_eq_getElem?_getD, List.getElem?_eq_getElem (by omega), Option.getD_some]
  · rw [List.getD_eq_getElem?_getD, List.getElem?_eq_getElem (by omega), Option.getD_some]
    congr 1; omega
set_option maxHeartbeats 1000000 in
theorem reverse_short (A : Option Addr) (c n : Nat) (w : World) (hn : n < 2) :
    Calls Try.prog 89 #[.slice A n c] w fun e w' => e = .returned (.tuple #[]) ∧ w = w' := by
  go_enter Try.func89, Try.ntmps89
  go_wp2
  go_loopw [2, 3] (fun ci cj wr => ∃ m : Int, ¬ 0 < m ∧ ci = .int .i64 0 ∧ cj = .int .i64 m ∧ w = wr)
    (fun _ _ _ => 0)
  case atStart => exact ⟨(n : Int) - 1, by omega, rfl, by go_num, rfl⟩
  case round =>
    obtain ⟨m, hm, rfl, rfl, rfl⟩ := hrel
    go_wp2
    exact ⟨rfl, .tuple #[], results_none rfl _ _ _, rfl, rfl⟩
set_option maxHeartbeats 1000000 in
/-- slices.Reverse of a list of its own. -/
theorem reverse_long (base g : Nat) (c : Nat) (l : List Nat) (w : World) (h : w.ownsRow base 3 1 (.slice (some ⟨g, 0, none⟩) l.length c) l.length (nats l)) (hl : l.length ≤ 4096) (h2 : 2 ≤ l.length) :
    Calls Try.prog 89 #[.slice (some ⟨g, 0, none⟩) l.length c] w fun e w' => e = .returned (.tuple #[]) ∧ w'.ownsRow base 3 1 (.slice (some ⟨g, 0, none⟩) l.length c) l.length (nats l.reverse) ∧ At g w w' := by
  have HS := Lib.hid (swaps_half l)
  have HO := Lib.hid h
  clear h
  go_enter Try.func89, Try.ntmps89
  go_wp2
  go_loopw [2, 3] (fun ci cj wr => ∃ k : Nat, 2 * k ≤ l.length ∧ ci = .int .i64 k ∧ cj = .int .i64 ((l.length : Int) - 1 - k) ∧ wr.ownsRow base 3 1 (.slice (some ⟨g, 0, none⟩) l.length c) l.length (nats (swaps l k)) ∧ At g w wr)
    (fun cn _ _ => l.length - (intOf cn).toNat)
  case atStart => exact ⟨0, by omega, rfl, by go_num, HO.out, At.refl _ _⟩
  case round =>
    obtain ⟨k, hk, rfl, rfl, ho, hat⟩ := hrel
    by_cases hlt : 2 * k + 1 < l.length
    · have hsl := swaps_length l k
      have hlk : (k : Int) < (l.length : Int) - 1 - k := by omega
      obtain ⟨g', hg', _, hgl, hc, hf⟩ := own_cell ho (by rw [nats_length]; omega)
      cases hg'
      obtain ⟨j, hj⟩ : ∃ j : Nat, j = l.length - 1 - k := ⟨_, rfl⟩
      have hji : (l.length : Int) - 1 - k = j := by omega
      have hci := hc k _ (nats_get _ k (by omega))
      have hcj := hc j _ (nats_get _ j (by omega))
      have hfi := hf k
      have hfj := hf j
      have hjl : (j : Int) < l.length := by omega
      have hkl : (k : Int) < l.length := by omega
      have hres := own_set (own_set ho k (.int .i64 ((swaps l k).getD j 0 : Nat))) j (.int .i64 ((swaps l k).getD k 0 : Nat))
      have hres2 := own_set (own_set ho j (.int .i64 ((swaps l k).getD k 0 : Nat))) k (.int .i64 ((swaps l k).getD j 0 : Nat))
      generalize hx : (swaps l k).getD j 0 = x at *
      generalize hy : (swaps l k).getD k 0 = y at *
      have hn1 : nats (swaps l (k + 1)) = ((nats (swaps l k)).set k (.int .i64 x)).set j (.int .i64 y) := by
        rw [nats_set, nats_set]; congr 1; rw [swaps_succ, ← hj, hx, hy]
      have hn2 : nats (swaps l (k + 1)) = ((nats (swaps l k)).set j (.int .i64 y)).set k (.int .i64 x) := by
        rw [hn1, List.set_comm _ _ (by omega)]
      rw [← hn1] at hres
      rw [← hn2] at hres2
      rw [hji]
      rw [hji] at hlk
      have HR := Lib.hid hres
      have HR2 := Lib.hid hres2
      clear hres hres2 hn1 hn2 hx hy hc hf ho hsl HO HS hj
      go_wp2_with fail
      go_region
      all_goals
        go_wp2
        first
          | exact ⟨⟨k + 1, by omega, by go_num, by go_num, HR.out.drew, ((hat.set _ _).set _ _).drew⟩, by simp [intOf]; omega⟩
          | exact ⟨⟨k + 1, by omega, by go_num, by go_num, HR2.out.drew, ((hat.set _ _).set _ _).drew⟩, by simp [intOf]; omega⟩
    · obtain ⟨m, hm⟩ : ∃ m : Int, m = (l.length : Int) - 1 - k := ⟨_, rfl⟩
      have hlk : ¬ (k : Int) < m := by omega
      rw [← hm]
      clear hm
      have hke : k = l.length / 2 := by omega
      rw [hke, HS.out] at ho
      go_wp2
      exact ⟨rfl, .tuple #[], results_none rfl _ _ _, rfl, ho, hat⟩

theorem reverse_any (base : Nat) (A : Option Addr) (c : Nat) (l : List Nat) (w : World) (h : w.ownsRow base 3 1 (.slice A l.length c) l.length (nats l)) (hl : l.length ≤ 4096) :
    Calls Try.prog 89 #[.slice A l.length c] w fun e w' => e = .returned (.tuple #[]) ∧ w'.ownsRow base 3 1 (.slice A l.length c) l.length (nats l.reverse) ∧ ∀ w0, New w0 w → w0.heap.size ≤ base → New w0 w' := by
  by_cases h2 : l.length < 2
  · have hr : l.reverse = l := by
      rcases l with _ | ⟨x, _ | ⟨y, l⟩⟩
      · rfl
      · rfl
      · simp at h2; omega
    rw [hr]
    refine (reverse_short A c l.length w h2).mono ?_
    rintro e w' ⟨rfl, rfl⟩
    exact ⟨rfl, h, fun _ hn _ => hn⟩
  · obtain ⟨g, rfl, hg, _⟩ := own_cell h (by rw [nats_length]; omega)
    refine (reverse_long base g c l w h hl (by omega)).mono ?_
    rintro e w' ⟨rfl, ho, hat⟩
    exact ⟨rfl, ho, fun _ hn hb => hn.at_ hat (by omega)⟩

/-- The entries that wait, in the order of their numbers. -/
def waitL (l : List Ent) (k : Nat) : List Nat := (List.range k).filter fun i => waitsB (entAt l i)
theorem waitL_yes {l : List Ent} {k : Nat} (h : waitsB (entAt l k) = true) : waitL l (k + 1) = waitL l k ++ [k] := by
  unfold waitL; rw [List.range_succ, List.filter_append]; simp [h]
theorem waitL_no {l : List Ent} {k : Nat} (h : waitsB (entAt l k) = false) : waitL l (k + 1) = waitL l k := by
  unfold waitL; rw [List.range_succ, List.filter_append]; simp [h]
theorem waitL_le (l : List Ent) (k : Nat) : (waitL l k).length ≤ k := by
  have := List.length_filter_le (fun i => waitsB (entAt l i)) (List.range k)
  rw [List.length_range] at this
  exact this
theorem waitS_first {s : Sto} (h : s.last = false) : waitS s = waitL s.ents s.ents.length := by unfold waitS; rw [h]; rfl
theorem waitS_last {s : Sto} (h : s.last = true) : waitS s = (waitL s.ents s.ents.length).reverse := by unfold waitS; rw [h]; rfl

set_option maxRecDepth 100000 in
set_option maxHeartbeats 1000000 in
theorem waiting_any {base ps : Nat} {s : Sto} (w : World) (h : StoreAt base w ps s) :
    Calls Try.prog 28 #[.pointer (some ⟨ps, 0, none⟩)] w fun e w' => ∃ A c, e = .returned (.slice A (waitS s).length c) ∧
      w'.ownsRow w.heap.size 3 1 (.slice A (waitS s).length c) (waitS s).length (nats (waitS s)) ∧ New w w' := by
  obtain ⟨A, c, pm, ml, h⟩ := h
  obtain ⟨h0, h1, _, _⟩ := h.cells
  have hfew := h.ok.few
  have hps := h.row.lt
  obtain ⟨i0, hi, hz0, hz1, hz2⟩ := info_parts infoOf3
  have HI := Lib.hid h
  clear h
  go_enter Try.func28, Try.ntmps28
  go_wp2_with fail
  go_loopw [12, 3] (fun cn cv wr => ∃ k : Nat, k ≤ s.ents.length ∧ cn = .int .i64 k ∧ wr.ownsRow w.heap.size 3 1 cv (waitL s.ents k).length (nats (waitL s.ents k)) ∧ New w wr)
    (fun cn _ _ => s.ents.length - (intOf cn).toNat)
  case atStart => exact ⟨0, by omega, rfl, World.ownsRow_nil _ _ _ _, New.refl _⟩
  case round =>
    obtain ⟨k, hk, rfl, ho, hn⟩ := hrel
    clear h0 h1
    obtain ⟨g0, g1, _, _⟩ := (HI.out.keep_new hn).cells
    have hpsr : ps < wr.heap.size := Nat.lt_of_lt_of_le hps hn.size
    by_cases hlt : k < s.ents.length
    · obtain ⟨pe, rfl, _, _, _, c2, c3, _⟩ := (HI.out.keep_new hn).ent k hlt
      have hkk : (k : Int) < s.ents.length := by omega
      have hw := waits_any pe (k * 4) _ _ wr c2 c3
      have hwb : (!(entAt s.ents k).gone && decide ((entAt s.ents k).taken < 0)) = waitsB (entAt s.ents k) := rfl
      rw [hwb] at hw
      have HW := Lib.hid hw
      have hpe := World.block_lt_of_cell? wr _ c2
      have hle := waitL_le s.ents k
      have HO := Lib.hid ho
      clear hw hwb c2 c3 ho g0
      cases hq : waitsB (entAt s.ents k) with
      | true =>
        have hyes := waitL_yes hq
        have HY := Lib.hid hyes
        rw [hq] at HW
        clear hyes hq
        have hsz := hn.size
        generalize hx : waitL s.ents k = l at *
        have hown := own_new HO.out ((New.refl _).alloc (.cells #[.int .i64 k] 3))
        have hel := elems_new wr 3 (.int .i64 k)
        have HOWN := Lib.hid hown
        have HEL := Lib.hid hel
        clear hown hel HO
        go_wp2_with (first
          | (go_at_call 88; go_must (refine HW.out.mono ?_; rintro e w2 ⟨rfl, rfl⟩))
          | (at_builtin; refine wpList_append_elems rfl _ _ 25 rfl w.heap.size 3 i0 (.int .i64 0) 1 8 Try.underlying25 hi hz0 hz1 hz2 rfl (by decide) _ _ _ rfl HOWN.out (wr.heap.size + 1) _ 1 1 [.int .i64 k] rfl HEL.out rfl (by simp [Value.oneCell']) ?c1 ?c2 ?c3 ?_))
        case c1 => unfold maxLen; omega
        case c2 => omega
        case c3 => simp; omega
        intro v' w' ho' hg hloc
        have hn' : New w w' := (hn.alloc _).grown hg (fun b hb => (own_row HOWN.out hb).1)
        have ho2 : w'.ownsRow w.heap.size 3 1 v' (waitL s.ents (k + 1)).length (nats (waitL s.ents (k + 1))) := by
          rw [HY.out, ← nats_snoc, List.length_append]; exact ho'
        clear ho' hg hloc
        go_wp2
        exact ⟨⟨k + 1, by omega, by go_num, ho2, hn'⟩, by simp [intOf]; omega⟩
      | false =>
        have hno := waitL_no hq
        rw [← hno] at HO
        rw [hq] at HW
        clear hno hq
        go_wp2_with (go_at_call 88; go_must (refine HW.out.mono ?_; rintro e w2 ⟨rfl, rfl⟩))
        exact ⟨⟨k + 1, by omega, by go_num, HO.out, hn⟩, by simp [intOf]; omega⟩
    · have : k = s.ents.length := by omega
      subst this
      have hkk : ¬ (s.ents.length : Int) < s.ents.length := by omega
      cases hla : s.last with
      | false =>
        rw [← waitS_first hla] at ho
        rw [hla] at g0
        obtain ⟨A', c', rfl⟩ := own_form ho
        go_wp2_with fail
        go_ret
        exact ⟨A', c', rfl, ho, hn⟩
      | true =>
        have hws := waitS_last hla
        have HWS := Lib.hid hws
        rw [hla] at g0
        have hle := waitL_le s.ents s.ents.length
        clear hws hla
        generalize waitL s.ents s.ents.length = l at *
        obtain ⟨A', c', rfl⟩ := own_form ho
        have hrev := reverse_any w.heap.size A' c' l wr ho (by omega)
        have HREV := Lib.hid hrev
        clear hrev ho
        go_wp2_with (go_at_call 89; go_must (refine HREV.out.mono ?_; rintro e w2 ⟨rfl, ho2, hn2⟩))
        go_ret
        rw [HWS.out, List.length_reverse]
        exact ⟨A', c', rfl, ho2, hn2 w hn (Nat.le_refl _)⟩
end Go.Proofs.Ytapfihlgemejiaa
