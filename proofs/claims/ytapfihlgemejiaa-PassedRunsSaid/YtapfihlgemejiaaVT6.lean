/- gnomonmem: what is handed over, and whether it was kept; two lists of bounds compared; a copy of a store's entries. -/
import Derived.Test.YtapfihlgemejiaaVS2
import Derived.Test.YtapfihlgemejiaaVS18
import Derived.Deep.OwnRows
namespace Go.Proofs.Ytapfihlgemejiaa
open Go.RowKit
/-- What lies behind a list that is handed over. -/
def marks9 : List Int := [160, 161, 162, 163, 164, 165, 166, 167, 168]
def handL (m : List Int) : List Int := m ++ marks9
theorem handL_length (m : List Int) : (handL m).length = m.length + 9 := by simp [handL, marks9]
theorem gt_hand (m : List Int) (t : Nat) (h1 : m.length ≤ t) (h2 : t < m.length + 9) : gt (handL m) t = 160 + (t : Int) - m.length := by
  unfold gt handL
  rw [List.getD_eq_getElem?_getD, List.getElem?_append_right h1]
  obtain ⟨k, hk⟩ : ∃ k, t - m.length = k := ⟨_, rfl⟩
  rw [hk]
  have : t = m.length + k := by omega
  subst this
  have hk9 : k < 9 := by omega
  clear h1 h2 hk
  have e : (160 : Int) + ((m.length + k : Nat) : Int) - m.length = 160 + k := by omega
  rw [e]
  match k, hk9 with
  | 0, _ => rfl | 1, _ => rfl | 2, _ => rfl | 3, _ => rfl | 4, _ => rfl | 5, _ => rfl | 6, _ => rfl | 7, _ => rfl | 8, _ => rfl
  | k + 9, h => omega
theorem gt_hand_lo (m : List Int) (t : Nat) (h1 : t < m.length) : gt (handL m) t = gt m t := by
  unfold gt handL
  rw [List.getD_eq_getElem?_getD, List.getD_eq_getElem?_getD, List.getElem?_append_left h1]
/-- The first t of l's numbers, and nothing but zeros behind them. -/
def part8 (l : List Int) (t : Nat) : List Value := (l.take t ++ List.replicate (l.length - t) 0).map (Value.int .u8)
theorem part8_zero (l : List Int) : part8 l 0 = List.replicate l.length (Value.int .u8 0) := by simp [part8]
theorem part8_full (l : List Int) : part8 l l.length = l.map (Value.int .u8) := by simp [part8]
theorem part8_cell (l : List Int) (t : Nat) (h : t < l.length) : (part8 l t)[t]? = some (.int .u8 0) := by
  unfold part8
  rw [List.getElem?_map, List.getElem?_append_right (by rw [List.length_take]; omega), List.getElem?_replicate, if_pos (by rw [List.length_take]; omega)]
  rfl
theorem part8_set (l : List Int) (t : Nat) (h : t < l.length) : (part8 l t).set t (.int .u8 (gt l t)) = part8 l (t + 1) := by
  unfold part8
  rw [← List.map_set]
  congr 1
  rw [List.set_append_right _ _ (by rw [List.length_take]; omega)]
  have e1 : (l.take t).length = t := by simp; omega
  rw [e1, Nat.sub_self]
  obtain ⟨k, hk⟩ : ∃ k, l.length - t = k + 1 := ⟨l.length - t - 1, by omega⟩
  rw [hk, List.replicate_succ, List.set_cons_zero, List.take_add_one, show l.length - (t + 1) = k from by omega]
  unfold gt
  rw [List.getD_eq_getElem?_getD, List.getElem?_eq_getElem h]
  simp only [Option.getD_some, Option.toList_some, List.append_assoc, List.singleton_append]
theorem made8 (w : World) (n : Nat) : w.alloc (.cells (madeCells #[.int .u8 0] n) 5) = w.alloc (.cells (List.replicate n (Value.int .u8 0)).toArray 5) := by
  congr 2
  rw [← toList_madeCells_one]
set_option maxRecDepth 100000 in
set_option maxHeartbeats 4000000 in
theorem hand_any (A : Option Addr) (c : Nat) (m : List Int) (w : World) (hA : Elems w w.heap.size A (m.map (Value.int .u8))) (hm : Bytes m) (hl : m.length ≤ 140737488355328) :
    Calls Try.prog 127 #[.slice A m.length c] w fun e w' => e = .returned (.slice (some ⟨w.heap.size, 0, none⟩) m.length (m.length + 9)) ∧ Row w' w.heap.size 5 ((handL m).map (Value.int .u8)) ∧ New w w' := by
  have hmk := run_make_row' (P := Try.prog) 30 5 (.int .u8 0) 1 Try.underlying30 infoOf5 rfl .i64 .i64 (m.length + 9) (by omega) (by omega)
  have e9 : ((m.length + 9 : Nat) : Int) = (m.length : Int) + 9 := by omega
  rw [e9] at hmk
  obtain ⟨n, hn⟩ : ∃ n, m.length = n := ⟨_, rfl⟩
  have HA := Lib.hid hA
  have HM := Lib.hid hm
  have HN := Lib.hid hn
  have HL : Hid ((handL m).length = n + 9) := Lib.hid (by rw [handL_length, hn])
  rw [hn] at hl hmk ⊢
  have hbs : w.heap.size = w.heap.size := rfl
  clear hA hm hn e9
  go_enter Try.func127, Try.ntmps127
  go_wp2_with fail
  have HR0 : Hid (Row (w.alloc (.cells (madeCells #[.int .u8 0] (n + 9)) 5)) w.heap.size 5 (part8 (handL m) 0)) := Lib.hid (by rw [made8, part8_zero, HL.out]; exact Row.new w 5 _)
  have HN0 : Hid (New w (w.alloc (.cells (madeCells #[.int .u8 0] (n + 9)) 5))) := Lib.hid ((New.refl w).alloc _)
  go_loopw [4] (fun vi wr => ∃ t : Nat, t ≤ n ∧ vi = .int .i64 t ∧ Hid (Row wr w.heap.size 5 (part8 (handL m) t)) ∧ Hid (New w wr)) (fun vi _ => n - (intOf vi).toNat)
  case atStart => exact ⟨0, Nat.zero_le _, rfl, HR0, HN0⟩
  case round =>
    obtain ⟨t, ht, rfl, HR, HNW⟩ := hrel
    by_cases htl : t < n
    · have htz : (t : Int) < n := by omega
      obtain ⟨b1, o1, rfl, hb1, hc1⟩ := (HA.out.new HNW.out (Nat.le_refl _)).ints t (by rw [HN.out]; exact htl)
      have f1 := HR.out.free t
      have c1 := HR.out.cell t
      rw [part8_cell _ _ (by rw [HL.out]; omega)] at c1
      have hs1 : Row (wr.setCell ⟨w.heap.size, t, none⟩ (.int .u8 (gt m t))) w.heap.size 5 (part8 (handL m) (t + 1)) := by
        rw [← part8_set _ _ (by rw [HL.out]; omega), gt_hand_lo m t (by rw [HN.out]; exact htl)]
        exact HR.out.set t _
      have HS1 := Lib.hid hs1
      have HN1 := Lib.hid (Fr.set HNW.out (p := ⟨w.heap.size, t, none⟩) (.inr (Nat.le_refl _)) (.int .u8 (gt m t)))
      clear hs1
      generalize gt m t = x at *
      go_wp2_with fail
      exact ⟨⟨t + 1, by omega, by go_num, HS1, HN1⟩, by simp [intOf] <;> omega⟩
    · have htz : ¬ (t : Int) < n := by omega
      obtain rfl : n = t := by omega
      go_wp2_with fail
      go_loopw [5] (fun vi wr => ∃ t : Nat, n ≤ t ∧ t ≤ n + 9 ∧ vi = .int .i64 t ∧ Hid (Row wr w.heap.size 5 (part8 (handL m) t)) ∧ Hid (New w wr)) (fun vi _ => n + 9 - (intOf vi).toNat)
      case atStart => exact ⟨n, Nat.le_refl _, Nat.le_add_right _ _, rfl, HR, HNW⟩
      case round =>
        clear HR HNW HR0 HN0
        obtain ⟨t, hnt, ht, rfl, HR, HNW⟩ := hrel
        by_cases htl : t < n + 9
        · have htz : (t : Int) < n + 9 := by omega
          have f1 := HR.out.free t
          have c1 := HR.out.cell t
          rw [part8_cell _ _ (by rw [HL.out]; omega)] at c1
          have hwr : IntKind.u8.wrap (160 + (t : Int) - n) = 160 + (t : Int) - n := by rw [IntKind.wrap_u8]; omega
          have hs1 : Row (wr.setCell ⟨w.heap.size, t, none⟩ (.int .u8 (160 + (t : Int) - n))) w.heap.size 5 (part8 (handL m) (t + 1)) := by
            rw [← part8_set _ _ (by rw [HL.out]; omega), gt_hand m t (by rw [HN.out]; exact hnt) (by rw [HN.out]; exact htl), HN.out]
            exact HR.out.set t _
          have HS1 := Lib.hid hs1
          have HN1 := Lib.hid (Fr.set HNW.out (p := ⟨w.heap.size, t, none⟩) (.inr (Nat.le_refl _)) (.int .u8 (160 + (t : Int) - n)))
          clear hs1
          go_wp2_with fail
          exact ⟨⟨t + 1, by omega, by omega, by go_num, HS1, HN1⟩, by simp [intOf] <;> omega⟩
        · have htz : ¬ (t : Int) < n + 9 := by omega
          obtain hte : t = n + 9 := by omega
          subst hte
          go_wp2_with fail
          go_ret
          refine ⟨by rfl, ?_, HNW.out⟩
          have := HR.out
          rw [← HL.out, part8_full] at this
          exact this
theorem Row.elems {w : World} {b : Nat} {t : TypeId} {cs : List Value} (h : Row w b t cs) (n : Nat) : Elems w w.heap.size (some ⟨b, 0, none⟩) (cs.take n) := fun _ => by
  refine ⟨b, 0, rfl, h.lt, fun j u hu => ?_⟩
  rw [h.cell]
  rw [List.getElem?_take] at hu
  split at hu
  · simpa using hu
  · cases hu
set_option maxRecDepth 100000 in
set_option maxHeartbeats 4000000 in
theorem kept_any (b : Nat) (B : Option Addr) (d : Nat) (m : List Int) (w : World) (hR : Row w b 5 ((handL m).map (Value.int .u8))) (hB : Elems w w.heap.size B (m.map (Value.int .u8))) (hl : m.length ≤ 140737488355328) :
    Calls Try.prog 129 #[.slice (some ⟨b, 0, none⟩) m.length (m.length + 9), .slice B m.length d] w fun e w' => e = .returned (.bool true) ∧ Drew w w' := by
  have hE : Elems w w.heap.size (some ⟨b, 0, none⟩) (m.map (Value.int .u8)) := by
    have h := hR.elems m.length
    rw [show (((handL m).map (Value.int .u8)).take m.length) = m.map (Value.int .u8) by simp [handL]] at h
    exact h
  have SA := same_any (some ⟨b, 0, none⟩) B (m.length + 9) d m m w hE hB (by omega)
  rw [decide_eq_true rfl] at SA
  have SA := Lib.hid SA
  have HR := Lib.hid hR
  have e9 : ((m.length + 9 : Nat) : Int) = (m.length : Int) + 9 := by omega
  have hcell : ∀ W, Drew w W → ∀ t : Nat, m.length ≤ t → t < m.length + 9 → W.cell? ⟨b, t, none⟩ = some (.int .u8 (160 + (t : Int) - m.length)) := fun W hd t h1 h2 => by
    have h3 : Row W b 5 ((handL m).map (Value.int .u8)) := hd.new.row hR
    have h4 : t < (handL m).length := by rw [handL_length]; exact h2
    rw [h3.cell, List.getElem?_map, ← gt_hand m t h1 h2]
    unfold gt
    rw [List.getD_eq_getElem?_getD, List.getElem?_eq_getElem h4]; rfl
  obtain ⟨n, hn⟩ : ∃ n, m.length = n := ⟨_, rfl⟩
  rw [hn] at SA hcell hl e9 ⊢
  have HC := Lib.hid hcell
  clear hR hB hE hcell hn
  go_enter Try.func129, Try.ntmps129
  go_wp2_with fail
  refine SA.out.mono ?_
  rintro e w1 ⟨rfl, hd1⟩
  have HD1 := Lib.hid hd1
  clear hd1
  go_wp2_with fail
  go_loopw [6] (fun vi wr => ∃ t : Nat, n ≤ t ∧ t ≤ n + 9 ∧ vi = .int .i64 t ∧ Hid (Drew w wr)) (fun vi _ => n + 9 - (intOf vi).toNat)
  case atStart => exact ⟨n, Nat.le_refl _, Nat.le_add_right _ _, rfl, HD1⟩
  case round =>
    obtain ⟨t, hnt, ht, rfl, HD⟩ := hrel
    by_cases htl : t < n + 9
    · have htz : (t : Int) < n + 9 := by omega
      have c1 := HC.out wr HD.out t hnt htl
      have hwr : IntKind.u8.wrap (160 + (t : Int) - n) = 160 + (t : Int) - n := by rw [IntKind.wrap_u8]; omega
      go_wp2_with fail
      exact ⟨⟨t + 1, by omega, by omega, by go_num, HD⟩, by simp [intOf] <;> omega⟩
    · have htz : ¬ (t : Int) < n + 9 := by omega
      go_wp2_with fail
      go_ret
      exact ⟨rfl, HD.out⟩
set_option maxRecDepth 100000 in
set_option maxHeartbeats 1000000 in
theorem samebounds_any (A B : Option Addr) (c d : Nat) (l : List Int) (w : World) (hA : Elems w w.heap.size A (l.map (Value.int .i32))) (hB : Elems w w.heap.size B (l.map (Value.int .i32))) (hl : l.length < 4611686018427387904) :
    Calls Try.prog 138 #[.slice A l.length c, .slice B l.length d] w fun e w' => e = .returned (.bool true) ∧ Drew w w' := by
  have HA := Lib.hid hA
  have HB := Lib.hid hB
  clear hA hB
  go_enter Try.func138, Try.ntmps138
  go_wp2_with fail
  go_loopw [5] (fun ci wr => ∃ k : Nat, k ≤ l.length ∧ ci = .int .i64 k ∧ Drew w wr) (fun cn _ => l.length - (intOf cn).toNat)
  case atStart => exact ⟨0, by omega, rfl, Drew.refl w⟩
  case round =>
    obtain ⟨k, hk, rfl, hd⟩ := hrel
    by_cases hlt : k < l.length
    · have hkk : (k : Int) < l.length := by omega
      obtain ⟨b1, o1, rfl, hb1, hc1⟩ := (HA.out.new hd.new (Nat.le_refl _)).ints k hlt
      obtain ⟨b2, o2, rfl, hb2, hc2⟩ := (HB.out.new hd.new (Nat.le_refl _)).ints k hlt
      generalize gt l k = x at *
      have hxx : (x == x) = true := by simp
      go_wp2_with fail
      go_quiet (fail)
      go_wp2_with fail
      exact ⟨⟨k + 1, by omega, by go_num, hd.drewN _⟩, by simp [intOf]; omega⟩
    · have hkk : ¬ (k : Int) < l.length := by omega
      go_wp2_with fail
      go_ret
      exact ⟨rfl, hd⟩
theorem clone_ents_nil (n c : Nat) (w : World) : Calls Try.prog 126 #[.slice none n c] w fun e w' => e = .returned (.slice none 0 0) ∧ w = w' := by
  have q : ∀ (w : World) (a : Option Addr) (n c n' c' : Nat), (binOp .eql 139 (.slice a n c) (.slice none n' c')).run Try.prog w = .ok (.bool a.isNone) w := fun w a n c n' c' => Lib.run_eql_slice_nil w _ _ a n c n' c' Try.underlying139
  go_enter Try.func126, Try.ntmps126
  go_wp2
  go_ret
  exact ⟨rfl, rfl⟩
set_option maxHeartbeats 400000 in
/-- slices.Clone at a store's entries. -/
theorem clone_ents (A : Option Addr) (c : Nat) (l : List Ent) (w : World) (hA : Elems w w.heap.size A (entRow l)) (hl : l.length ≤ 4096) :
    Calls Try.prog 126 #[.slice A l.length c] w fun e w' => ∃ A' c', e = .returned (.slice A' l.length c') ∧ w'.ownsRow w.heap.size 143 4 (.slice A' l.length c') l.length (entRow l) ∧ New w w' := by
  have hone : ∀ u ∈ entRow l, u.oneCell' = true := fun u hu => by
    unfold entRow at hu
    obtain ⟨e, _, hu⟩ := List.mem_flatMap.1 hu
    simp only [entCells, List.mem_cons, List.not_mem_nil, or_false] at hu
    rcases hu with rfl | rfl | rfl | rfl <;> rfl
  cases A with
  | none =>
    have hk : entRow l = [] := hA.nil_addr
    have hll : l.length = 0 := by have := congrArg List.length hk; rw [entRow_length, List.length_nil] at this; omega
    have hln : l = [] := List.eq_nil_of_length_eq_zero hll
    subst hln
    refine (clone_ents_nil _ c w).mono ?_
    rintro e w' ⟨rfl, rfl⟩
    exact ⟨_, _, rfl, World.ownsRow_nil _ _ _ _, New.refl _⟩
  | some ad =>
    have q : ∀ (w : World) (a : Option Addr) (n c n' c' : Nat), (binOp .eql 139 (.slice a n c) (.slice none n' c')).run Try.prog w = .ok (.bool a.isNone) w := fun w a n c n' c' => Lib.run_eql_slice_nil w _ _ a n c n' c' Try.underlying139
    obtain ⟨i0, hi, hz0, hz1, hz2⟩ := info_parts infoOf143
    have HA := Lib.hid (hA.new ((New.refl w).alloc (.cells #[] 143)) (Nat.le_refl _))
    have H1 := Lib.hid hone
    clear hA hone
    go_enter Try.func126, Try.ntmps126
    go_wp2_with (at_builtin; refine wpList_append_elems rfl _ _ 139 rfl w.heap.size 143 i0 (.agg #[.slice none 0 0, .pointer none, .int .i64 0, .bool false]) 4 48 Try.underlying139 hi hz0 hz1 hz2 rfl (by decide) _ 0 [] rfl (own_empty w w.heap.size 143 4 (Nat.le_refl _)) w.heap.size _ l.length _ (entRow l) rfl HA.out (by rw [entRow_length, Nat.mul_comm]) H1.out ?c1 ?c2 ?c3 ?_)
    case c1 => unfold maxLen; omega
    case c2 => omega
    case c3 => simp
    intro v' w' ho hg _
    have hn : New w w' := ((New.refl w).alloc (.cells #[] 143)).grown hg (fun k hk => by cases hk; exact Nat.le_refl _)
    obtain ⟨A', c', rfl⟩ := own_form ho
    go_wp2
    go_ret
    exact ⟨_, _, rfl, ho, hn⟩
end Go.Proofs.Ytapfihlgemejiaa
