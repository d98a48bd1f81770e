/- Walks over package dbm: Equal. -/
import Derived.Test.YtapfihlgemejiaaD5
import Derived.ChangeKeysEq
namespace Go.Proofs.Ytapfihlgemejiaa
open Go.RowKit

def cellsA (L : List Int) : Array Value := (L.map (Value.int .i32)).toArray
theorem info76 : (Try.prog.info? 76).map (fun i => i.size) = some 1 := by kernel_rfl
theorem info172 : (Try.prog.info? 172).map (fun i => i.size) = some 9 := by kernel_rfl
theorem cellsOf76 : Try.prog.cellsOf 76 = 1 := by kernel_rfl
theorem cellsOf172 : Try.prog.cellsOf 172 = 9 := by kernel_rfl
theorem isAgg76 (w : World) : (isAgg 76).run Try.prog w = .ok false w := by kernel_rfl
theorem isAgg172 (w : World) : (isAgg 172).run Try.prog w = .ok true w := by kernel_rfl
theorem size172 (w : World) : (sizeOf 172).run Try.prog w = .ok 9 w := by kernel_rfl

theorem part_cell (L : List Int) (i : Nat) (h : i < L.length) (w : World) : (part 76 (cellsA L) i).run Try.prog w = .ok (.int .i32 (gt L i)) w := by
  have e : (cellsA L)[i]? = some (.int .i32 (gt L i)) := by simp [cellsA, gt, h]
  unfold part
  simp only [Sem.run_bind, isAgg76, Result.andThen_ok, Bool.false_eq_true, if_false, e, Sem.run_pure]
theorem part_row (L : List Int) (i : Nat) (w : World) : (part 172 (cellsA L) (i * 9)).run Try.prog w = .ok (.agg (cellsA ((L.drop (i * 9)).take 9))) w := by
  have e : (cellsA L).extract (i * 9) (i * 9 + 9) = cellsA ((L.drop (i * 9)).take 9) := by
    apply Array.ext'
    unfold cellsA
    rw [Array.toList_extract]
    simp [List.map_drop, List.map_take]
  unfold part
  simp only [Sem.run_bind, isAgg172, Result.andThen_ok, if_true, size172, Sem.run_pure, e]

theorem eq_cells (d : Nat) (A B : List Int) (w : World) : ∀ (is : List Nat), (∀ i ∈ is, i < A.length ∧ i < B.length) →
    (Op.eqItems (d + 1) 76 1 (cellsA A) (cellsA B) is).run Try.prog w = .ok (is.all fun i => gt A i == gt B i) w
  | [], _ => by simp [Op.eqItems]
  | i :: is, h => by
    obtain ⟨h1, h2⟩ := h i List.mem_cons_self
    have ih := eq_cells d A B w is fun j hj => h j (List.mem_cons_of_mem _ hj)
    unfold Op.eqItems
    rw [Nat.mul_one]
    simp only [Sem.run_bind, part_cell A i h1, part_cell B i h2, Result.andThen_ok, run_equalIn_int w d 76 .i32 .i32 _ _ Try.underlying76, List.all_cons]
    cases hq : (gt A i == gt B i) with
    | true => simpa using ih
    | false => simp

theorem eq_row (d : Nat) (A B : List Int) (n : Nat) (hA : A.length = n) (hB : B.length = n) (w : World) :
    (Op.eqItems (d + 1) 76 1 (cellsA A) (cellsA B) (List.range n)).run Try.prog w = .ok (decide (A = B)) w := by
  rw [eq_cells d A B w (List.range n) (fun i hi => by have := List.mem_range.1 hi; omega)]
  congr 1
  rw [Bool.eq_iff_iff, List.all_eq_true, decide_eq_true_eq]
  constructor
  · intro h
    apply List.ext_getElem (by omega)
    intro i h1 h2
    have := h i (List.mem_range.2 (by omega))
    unfold gt at this
    rw [List.getD_eq_getElem?_getD, List.getD_eq_getElem?_getD, List.getElem?_eq_getElem h1, List.getElem?_eq_getElem h2] at this
    simpa using this
  · rintro rfl i _
    simp
theorem eq_part (d : Nat) (A B : List Int) (hA : A.length = 9) (hB : B.length = 9) (w : World) :
    (Op.equalIn (d + 2) 172 (.agg (cellsA A)) (.agg (cellsA B))).run Try.prog w = .ok (decide (A = B)) w := by
  obtain ⟨i, hi, _⟩ : ∃ i, Try.prog.info? 76 = some i ∧ i.size = 1 := by
    have := info76
    cases h : Try.prog.info? 76 with
    | none => rw [h] at this; cases this
    | some i => rw [h] at this; exact ⟨i, rfl, by simpa using this⟩
  rw [run_equalIn_array w (d + 1) (cellsA A) (cellsA B) Try.underlying172 hi, cellsOf76]
  exact eq_row d A B 9 hA hB w
theorem eq_rows (d : Nat) (A B : List Int) (hA : A.length = 81) (hB : B.length = 81) (w : World) : ∀ (is : List Nat), (∀ i ∈ is, i < 9) →
    (Op.eqItems (d + 2) 172 9 (cellsA A) (cellsA B) is).run Try.prog w = .ok (is.all fun i => decide ((A.drop (i * 9)).take 9 = (B.drop (i * 9)).take 9)) w
  | [], _ => by simp [Op.eqItems]
  | i :: is, h => by
    have h1 := h i List.mem_cons_self
    have ih := eq_rows d A B hA hB w is fun j hj => h j (List.mem_cons_of_mem _ hj)
    unfold Op.eqItems
    simp only [Sem.run_bind, part_row, Result.andThen_ok, eq_part d _ _ (show ((A.drop (i * 9)).take 9).length = 9 by simp; omega) (show ((B.drop (i * 9)).take 9).length = 9 by simp; omega), List.all_cons]
    cases hq : decide ((A.drop (i * 9)).take 9 = (B.drop (i * 9)).take 9) with
    | true => simpa using ih
    | false => simp
set_option maxRecDepth 100000 in
theorem eq_matrix (d : Nat) (A B : List Int) (hA : A.length = 81) (hB : B.length = 81) (w : World) :
    (Op.equalIn (d + 3) 173 (.agg (cellsA A)) (.agg (cellsA B))).run Try.prog w = .ok (decide (A = B)) w := by
  obtain ⟨i, hi, _⟩ : ∃ i, Try.prog.info? 172 = some i ∧ i.size = 9 := by
    have := info172
    cases h : Try.prog.info? 172 with
    | none => rw [h] at this; cases this
    | some i => rw [h] at this; exact ⟨i, rfl, by simpa using this⟩
  rw [run_equalIn_array w (d + 2) (cellsA A) (cellsA B) Try.underlying173 hi, cellsOf172, eq_rows d A B hA hB w _ (fun i hi => List.mem_range.1 hi)]
  congr 1
  rw [Bool.eq_iff_iff, List.all_eq_true, decide_eq_true_eq]
  constructor
  · intro h
    apply List.ext_getElem (by omega)
    intro t h1 h2
    have h3 := of_decide_eq_true (h (t / 9) (List.mem_range.2 (by omega)))
    have h4 := congrArg (fun l => l[t % 9]?) h3
    simp only [List.getElem?_take, List.getElem?_drop] at h4
    rw [if_pos (by omega), if_pos (by omega), show t / 9 * 9 + t % 9 = t by omega, List.getElem?_eq_getElem h1, List.getElem?_eq_getElem h2] at h4
    simpa using h4
  · rintro rfl i _
    simp
theorem run_eql_matrix (A B : List Int) (hA : A.length = 81) (hB : B.length = 81) (w : World) : (binOp .eql 173 (.agg (cellsA A)) (.agg (cellsA B))).run Try.prog w = .ok (.bool (decide (A = B))) w := by
  have h := eq_matrix 9997 A B hA hB w
  have e : (Op.equal 173 (.agg (cellsA A)) (.agg (cellsA B))).run Try.prog w = .ok (decide (A = B)) w := h
  simp [binOp, e]

theorem isAgg173 (w : World) : (isAgg 173).run Try.prog w = .ok true w := by kernel_rfl
theorem size173 (w : World) : (sizeOf 173).run Try.prog w = .ok 81 w := by kernel_rfl
theorem load_cells {w : World} {a : Nat} {z : Zn} (h : ZoneAt w a z) : (loadCellsFrom ⟨a, 1, none⟩ 0 81 #[]).run Try.prog w = .ok (cellsA z.Z) w := by
  have hl := run_loadCells_list (P := Try.prog) w ⟨a, 1, none⟩ (z.Z.map (Value.int .i32)) (fun j v hv => by
    have hadd : (⟨a, 1, none⟩ : Addr).add j = ⟨a, j + 1, none⟩ := by
      unfold Addr.add
      split
      · rename_i h0; subst h0; rfl
      · rw [Nat.add_comm]
    rw [hadd, h.row.cell]
    exact hv)
  rw [List.length_map, h.len] at hl
  exact hl
theorem load_zone {w : World} {a : Nat} {z : Zn} (h : ZoneAt w a z) : (loadVar 173 ⟨a, 1, none⟩).run Try.prog w = .ok (.agg (cellsA z.Z)) w := by
  simp [loadVar, loadCells, load_cells h]

theorem quiet_load {P : Program} {C : World → Prop} {a : Act} {o : Oper} {K : Act → Prop} (ty : TypeId) (x : Operand) (h : o.op = .load ty x) (ad : Addr) (hx : a.eval x = .pointer (some ad)) (v : Value)
    (hv : ∀ w, C w → (loadVar ty ad).run P w = .ok v w) (hk : K (a.put o.dst v)) : o.quiet P a C K :=
  ⟨v, fun w hw => by
    have e : (execOp a.eval o).run P w = .ok (.value v) w := by
      unfold execOp
      simp only [h, hx, Instr.loadAt, Instr.sureAddr, Sem.run_bind, Sem.run_pure, Result.andThen_ok, hv w hw]
    unfold Oper.quietAt
    rw [e]
    exact ⟨rfl, rfl⟩, hk⟩

set_option maxRecDepth 100000 in
set_option maxHeartbeats 1000000 in
theorem equal_any (a b : Nat) (y z : Zn) (w : World) (hy : ZoneAt w a y) (hz : ZoneAt w b z) (hn : y.n = z.n) :
    Calls Try.prog 49 #[.pointer (some ⟨a, 0, none⟩), .pointer (some ⟨b, 0, none⟩)] w fun e w' => e = .returned (.bool (decide (y.Z = z.Z))) ∧ Drew w w' := by
  have heq := fun w => run_eql_matrix y.Z z.Z hy.len hz.len w
  have hal : ∀ w', Drew w w' → Calls Try.prog 117 #[.pointer (some ⟨a, 0, none⟩), .pointer (some ⟨b, 0, none⟩)] w' fun e w'' => e = .returned (.bool true) ∧ ∃ n, w'' = w'.drewN n := fun w' hd => by
    have := alike_any a b y z w' (hy.of_drew hd) (hz.of_drew hd)
    rwa [decide_eq_true hn] at this
  have HAL := Lib.hid hal
  have hl1 : ∀ x, (∃ n, x = w.drewN n) → (loadVar 173 ⟨a, 1, none⟩).run Try.prog x = .ok (.agg (cellsA y.Z)) x := fun x ⟨n, e⟩ => by rw [e]; exact load_zone (hy.drewN n)
  have hl2 : ∀ x, (∃ n, x = w.drewN n) → (loadVar 173 ⟨b, 1, none⟩).run Try.prog x = .ok (.agg (cellsA z.Z)) x := fun x ⟨n, e⟩ => by rw [e]; exact load_zone (hz.drewN n)
  have HY := Lib.hid hy
  have HZ := Lib.hid hz
  clear hal hy hz
  go_enter Try.func49, Try.ntmps49
  go_wp2_with fail
  have hy0 : a < w.heap.size := HY.out.row.lt
  have hz0 : b < w.heap.size := HZ.out.row.lt
  refine wp_region_quiet_lit (by kernel_rfl) (by kernel_rfl) ?_
  repeat (first
    | go_big_quiet_step ((go_at_call 117; exact Calls.quiet_of (HAL.out _ ⟨_, rfl⟩)))
    | (go_big_quiet_want; refine quiet_load 173 _ rfl _ rfl _ hl1 ?_; go_simp; go_big_quiet_on)
    | (go_big_quiet_want; refine quiet_load 173 _ rfl _ rfl _ hl2 ?_; go_simp; go_big_quiet_on))
  refine wpQuiet_nil ?_
  rintro _ ⟨nq, rfl⟩
  go_wp2_with fail
  go_ret
  exact ⟨rfl, nq, rfl⟩
end Go.Proofs.Ytapfihlgemejiaa
