/- What a row tells of a list of steps, with the range and number of each step's cells. -/
import Derived.Test.YtapfihlgemejiaaVF1
import Derived.Test.YtapfihlgemejiaaVS12
import Derived.Test.YtapfihlgemejiaaRows
import Derived.Deep.Slices
import Derived.ChangeSame
import Derived.SizedLaws
namespace Go.Proofs.Ytapfihlgemejiaa
open Go.ChangeShapes Go.WideShapes Go.RowKit Go.Deep
theorem field_cell {v : Value} {cs : List Value} {j : Nat} (h : cs[j]? = some v) : (cs.drop j).take 1 = [v] := by
  obtain ⟨hl, he⟩ := List.getElem?_eq_some_iff.1 h
  rw [List.drop_eq_getElem_cons hl, he]
  rfl

section
variable {H : Type} {enc : TypeId × Value → H} {W : World}
/-- A cell that holds a list of numbers. -/
theorem open_cell_ints {t e : TypeId} {k : IntKind} {fuel : Nat} {v : Value} {x : DataW H × List MemPlace} (ht : Try.prog.underlying t = some (.slice e)) (he : Try.prog.underlying e = some (.int k)) (hc : Try.prog.cellsOf e = 1)
    (h : DataW.trod enc Try.prog W 0 (fun _ => true) true fuel t [v] = some x) :
    ∃ A c, ∃ l : List Int, v = .slice A l.length c ∧ Elems W W.heap.size A (l.map (Value.int k)) ∧ (∀ n ∈ l, (Lit.int k n).wf = true) ∧ ∀ b, (∀ n ∈ x.1.weights Try.prog t, n ≤ b) → l.length * Try.prog.bytesOf e ≤ b := by
  rcases open_ints ht he hc h with ⟨hcs, _⟩ | ⟨a, len, cap, zs, hcs, _, hl, hm, hz, hx, hcell, hwz⟩
  · simp only [List.cons.injEq, and_true] at hcs
    subst hcs
    exact ⟨none, 0, [], rfl, Elems.nil _ _ _, (fun n hn => absurd hn (by simp)), (fun b _ => by simp)⟩
  · simp only [List.cons.injEq, and_true] at hcs
    subst hcs
    simp only [if_true] at hz
    have hlen : (zs.take len).length = len := by rw [List.length_take]; omega
    refine ⟨some a, cap, zs.take len, by rw [hlen], elems_of_cells hcell (by omega), fun n hn => hwz n (List.mem_of_mem_take hn), fun b hb => ?_⟩
    rw [hx] at hb
    have h1 := hb (((lits k (zs.take len) : List (DataW H)).length + (lits k (zs.drop len) : List (DataW H)).length) * Try.prog.bytesOf e) (by simp [DataW.weights, ht])
    refine Nat.le_trans (Nat.mul_le_mul_right _ ?_) h1
    simp [lits]

theorem cells42 : Try.prog.cellsOf 42 = 4 := by kernel_rfl
theorem cells3 : Try.prog.cellsOf 3 = 1 := by kernel_rfl
theorem cells30 : Try.prog.cellsOf 30 = 1 := by kernel_rfl
theorem cells40 : Try.prog.cellsOf 40 = 1 := by kernel_rfl
theorem cells5 : Try.prog.cellsOf 5 = 1 := by kernel_rfl
theorem cells76 : Try.prog.cellsOf 76 = 1 := by kernel_rfl
theorem bytes5 : Try.prog.bytesOf 5 = 1 := by kernel_rfl
theorem bytes42 : Try.prog.bytesOf 42 = 64 := by kernel_rfl

theorem open_step {n : Nat} {a : Addr} {cs : List Value} {x : DataW H × List MemPlace} (hc : W.cells? 0 a 4 = some cs) (h : DataW.trod enc Try.prog W 0 (fun _ => true) true n 42 cs = some x)
    (hw : ∀ n ∈ x.1.weights Try.prog 42, n ≤ reachBytes) : ∃ st, a.spot = none ∧ a.block < W.heap.size ∧ StpAt W W.heap.size a.block a.off st := by
  obtain ⟨_, hcl, hat⟩ := World.cells?_some hc
  obtain ⟨ys, m, _, hx, _, hyl, hf⟩ := DataW.trod_struct Try.underlying42 h
  have hyl : ys.length = 4 := hyl
  have f0 : DataW.trod enc Try.prog W 0 (fun _ => true) true m 3 ((cs.drop 0).take (Try.prog.cellsOf 3)) = ys[0]? := hf 0 _ rfl
  have f1 : DataW.trod enc Try.prog W 0 (fun _ => true) true m 30 ((cs.drop 1).take (Try.prog.cellsOf 30)) = ys[1]? := hf 1 _ rfl
  have f2 : DataW.trod enc Try.prog W 0 (fun _ => true) true m 3 ((cs.drop 2).take (Try.prog.cellsOf 3)) = ys[2]? := hf 2 _ rfl
  have f3 : DataW.trod enc Try.prog W 0 (fun _ => true) true m 40 ((cs.drop 3).take (Try.prog.cellsOf 40)) = ys[3]? := hf 3 _ rfl
  have c0 : cs[0]? = some (cs[0]'(by omega)) := List.getElem?_eq_getElem _
  have c1 : cs[1]? = some (cs[1]'(by omega)) := List.getElem?_eq_getElem _
  have c2 : cs[2]? = some (cs[2]'(by omega)) := List.getElem?_eq_getElem _
  have c3 : cs[3]? = some (cs[3]'(by omega)) := List.getElem?_eq_getElem _
  rw [cells3] at f0 f2
  rw [cells30] at f1
  rw [cells40] at f3
  rw [field_cell c0, List.getElem?_eq_getElem (by omega)] at f0
  rw [field_cell c1, List.getElem?_eq_getElem (by omega)] at f1
  rw [field_cell c2, List.getElem?_eq_getElem (by omega)] at f2
  rw [field_cell c3, List.getElem?_eq_getElem (by omega)] at f3
  obtain ⟨k0, e0, _, _⟩ := DataW.trod_int Try.underlying3 f0
  obtain ⟨A1, p1, l1, e1, h1, w1, b1⟩ := open_cell_ints Try.underlying30 Try.underlying5 cells5 f1
  obtain ⟨k2, e2, _, _⟩ := DataW.trod_int Try.underlying3 f2
  obtain ⟨A3, p3, l3, e3, h3, _, _⟩ := open_cell_ints Try.underlying40 Try.underlying76 cells76 f3
  simp only [List.cons.injEq, and_true] at e0 e2
  have hc0 := hat 0 (by omega)
  have hc1 := hat 1 (by omega)
  have hc2 := hat 2 (by omega)
  have hc3 := hat 3 (by omega)
  rw [c0, e0] at hc0
  rw [c1, e1] at hc1
  rw [c2, e2] at hc2
  rw [c3, e3] at hc3
  obtain ⟨s1, s2⟩ := spot_of_cell (a := a) hc0
  obtain ⟨b, off, sp⟩ := a
  have s1 : sp = none := s1
  subst s1
  have hlen : l1.length ≤ reachBytes := by
    have h5 := b1 reachBytes (fun n hn => hw n (by
      rw [hx]
      have : ys = [ys[0]'(by omega), ys[1]'(by omega), ys[2]'(by omega), ys[3]'(by omega)] := by
        apply List.ext_getElem (by simp [hyl])
        intro i hi1 hi2
        match i, hi1 with
        | 0, _ => rfl
        | 1, _ => rfl
        | 2, _ => rfl
        | 3, _ => rfl
        | i + 4, hi => omega
      rw [this]
      simp only [DataW.weights, Try.underlying42, List.map_cons, List.map_nil, DataW.weightsEach, List.mem_append]
      exact .inr (.inl hn)))
    rwa [bytes5, Nat.mul_one] at h5
  refine ⟨⟨k0, l1, k2, l3⟩, rfl, s2, hc0, ⟨A1, p1, hc1, h1⟩, hc2, ⟨A3, p3, hc3, h3⟩, ?_, Nat.le_trans hlen (by decide)⟩
  intro y hy
  have := w1 y hy
  simpa [Lit.wf, IntKind.has, IntKind.min, IntKind.max, IntKind.signed, IntKind.bits] using this

theorem weightsAll_mem {P : Program} {e : TypeId} {ds : List (DataW H)} {d : DataW H} (h : d ∈ ds) {n : Nat} (hn : n ∈ d.weights P e) : n ∈ DataW.weightsAll P e ds := by
  induction ds with
  | nil => cases h
  | cons a r ih =>
    simp only [DataW.weightsAll, List.mem_append]
    rcases List.mem_cons.1 h with rfl | h
    · exact .inl hn
    · exact .inr (ih h)

theorem reach_small : reachBytes ≤ 140737488355328 := by decide
theorem StpsAt.nil (w : World) (B : Nat) (A : Option Addr) : StpsAt w B A [] := ⟨Nat.zero_le _, fun i x hx => by simp at hx⟩
end
end Go.Proofs.Ytapfihlgemejiaa
namespace Go.Proofs.Ytapfihlgemejiaa
open Go.ChangeShapes Go.WideShapes Go.RowKit Go.Deep
theorem bytes76 : Try.prog.bytesOf 76 = 4 := by kernel_rfl
section
variable {H : Type} {enc : TypeId × Value → H} {W : World}
theorem open_step3 {n : Nat} {a : Addr} {cs : List Value} {x : DataW H × List MemPlace} (hc : W.cells? 0 a 4 = some cs) (h : DataW.trod enc Try.prog W 0 (fun _ => true) true n 42 cs = some x)
    (hw : ∀ n ∈ x.1.weights Try.prog 42, n ≤ reachBytes) : ∃ st, a.spot = none ∧ a.block < W.heap.size ∧ StpAt W W.heap.size a.block a.off st ∧ ((∀ y ∈ st.cells, -2147483648 ≤ y ∧ y ≤ 2147483647) ∧ st.cells.length ≤ 140737488355328) := by
  obtain ⟨_, hcl, hat⟩ := World.cells?_some hc
  obtain ⟨ys, m, _, hx, _, hyl, hf⟩ := DataW.trod_struct Try.underlying42 h
  have hyl : ys.length = 4 := hyl
  have f0 : DataW.trod enc Try.prog W 0 (fun _ => true) true m 3 ((cs.drop 0).take (Try.prog.cellsOf 3)) = ys[0]? := hf 0 _ rfl
  have f1 : DataW.trod enc Try.prog W 0 (fun _ => true) true m 30 ((cs.drop 1).take (Try.prog.cellsOf 30)) = ys[1]? := hf 1 _ rfl
  have f2 : DataW.trod enc Try.prog W 0 (fun _ => true) true m 3 ((cs.drop 2).take (Try.prog.cellsOf 3)) = ys[2]? := hf 2 _ rfl
  have f3 : DataW.trod enc Try.prog W 0 (fun _ => true) true m 40 ((cs.drop 3).take (Try.prog.cellsOf 40)) = ys[3]? := hf 3 _ rfl
  have c0 : cs[0]? = some (cs[0]'(by omega)) := List.getElem?_eq_getElem _
  have c1 : cs[1]? = some (cs[1]'(by omega)) := List.getElem?_eq_getElem _
  have c2 : cs[2]? = some (cs[2]'(by omega)) := List.getElem?_eq_getElem _
  have c3 : cs[3]? = some (cs[3]'(by omega)) := List.getElem?_eq_getElem _
  rw [cells3] at f0 f2
  rw [cells30] at f1
  rw [cells40] at f3
  rw [field_cell c0, List.getElem?_eq_getElem (by omega)] at f0
  rw [field_cell c1, List.getElem?_eq_getElem (by omega)] at f1
  rw [field_cell c2, List.getElem?_eq_getElem (by omega)] at f2
  rw [field_cell c3, List.getElem?_eq_getElem (by omega)] at f3
  obtain ⟨k0, e0, _, _⟩ := DataW.trod_int Try.underlying3 f0
  obtain ⟨A1, p1, l1, e1, h1, w1, b1⟩ := open_cell_ints Try.underlying30 Try.underlying5 cells5 f1
  obtain ⟨k2, e2, _, _⟩ := DataW.trod_int Try.underlying3 f2
  obtain ⟨A3, p3, l3, e3, h3, w3, b3⟩ := open_cell_ints Try.underlying40 Try.underlying76 cells76 f3
  simp only [List.cons.injEq, and_true] at e0 e2
  have hc0 := hat 0 (by omega)
  have hc1 := hat 1 (by omega)
  have hc2 := hat 2 (by omega)
  have hc3 := hat 3 (by omega)
  rw [c0, e0] at hc0
  rw [c1, e1] at hc1
  rw [c2, e2] at hc2
  rw [c3, e3] at hc3
  obtain ⟨s1, s2⟩ := spot_of_cell (a := a) hc0
  obtain ⟨b, off, sp⟩ := a
  have s1 : sp = none := s1
  subst s1
  have hlen : l1.length ≤ reachBytes := by
    have h5 := b1 reachBytes (fun n hn => hw n (by
      rw [hx]
      have : ys = [ys[0]'(by omega), ys[1]'(by omega), ys[2]'(by omega), ys[3]'(by omega)] := by
        apply List.ext_getElem (by simp [hyl])
        intro i hi1 hi2
        match i, hi1 with
        | 0, _ => rfl
        | 1, _ => rfl
        | 2, _ => rfl
        | 3, _ => rfl
        | i + 4, hi => omega
      rw [this]
      simp only [DataW.weights, Try.underlying42, List.map_cons, List.map_nil, DataW.weightsEach, List.mem_append]
      exact .inr (.inl hn)))
    rwa [bytes5, Nat.mul_one] at h5
  have hlen3 : l3.length ≤ 140737488355328 := by
    have h5 := b3 reachBytes (fun n hn => hw n (by
      rw [hx]
      have : ys = [ys[0]'(by omega), ys[1]'(by omega), ys[2]'(by omega), ys[3]'(by omega)] := by
        apply List.ext_getElem (by simp [hyl])
        intro i hi1 hi2
        match i, hi1 with
        | 0, _ => rfl
        | 1, _ => rfl
        | 2, _ => rfl
        | 3, _ => rfl
        | i + 4, hi => omega
      rw [this]
      simp only [DataW.weights, Try.underlying42, List.map_cons, List.map_nil, DataW.weightsEach, List.mem_append]
      exact .inr (.inr (.inr (.inl hn)))))
    have h6 : reachBytes ≤ 140737488355328 := by decide
    rw [bytes76] at h5
    omega
  refine ⟨⟨k0, l1, k2, l3⟩, rfl, s2, ⟨hc0, ⟨A1, p1, hc1, h1⟩, hc2, ⟨A3, p3, hc3, h3⟩, ?_, Nat.le_trans hlen (by decide)⟩, fun y hy => ?_, hlen3⟩
  rotate_left
  · have := w3 y hy
    simpa [Lit.wf, IntKind.has, IntKind.min, IntKind.max, IntKind.signed, IntKind.bits] using this
  intro y hy
  have := w1 y hy
  simpa [Lit.wf, IntKind.has, IntKind.min, IntKind.max, IntKind.signed, IntKind.bits] using this

set_option maxRecDepth 100000 in
theorem open_steps3 {base : Nat} {v : Value} {d : DataW H} {ps : List MemPlace} (hv : Value.okWide Try.prog W .any base 36 v) (h : DataW.Trod enc Try.prog W 0 (fun _ => true) true 36 v d ps)
    (hw : ∀ n ∈ d.weights Try.prog 36, n ≤ reachBytes) : ∃ A c, ∃ l : List Stp, v = .slice A l.length c ∧ StpsAt W W.heap.size A l ∧ ∀ x ∈ l, (∀ y ∈ x.cells, -2147483648 ≤ y ∧ y ≤ 2147483647) ∧ x.cells.length ≤ 140737488355328 := by
  obtain ⟨a, len, cap, rfl⟩ := okWide_slice Try.underlying36 hv
  obtain ⟨fuel, hf⟩ := h
  rcases open_slice Try.underlying36 hf with ⟨hcs, _⟩ | ⟨x, l, c, m, n, D, Pl, hcs, _, hl, hm, hmm, hx, hi⟩
  · simp [Value.cells] at hcs
    obtain ⟨rfl, rfl, rfl⟩ := hcs
    exact ⟨none, 0, [], rfl, StpsAt.nil _ _ _, fun x hx => by cases hx⟩
  · simp [Value.cells] at hcs
    obtain ⟨rfl, rfl, rfl⟩ := hcs
    simp only [if_true] at hmm
    simp only [Prod.mk.injEq] at hx
    rw [hx.1] at hw
    simp only [DataW.weights, Try.underlying36, List.mem_cons, List.mem_append] at hw
    have hlen : len ≤ 2199023255552 := by
      have h1 := hw _ (.inl rfl)
      rw [bytes42] at h1
      simp only [List.length_map, List.length_range] at h1
      have := reach_small
      omega
    rw [cells42] at hi
    have hall : ∀ i, ∃ st : Stp, i < len → x.spot = none ∧ x.block < W.heap.size ∧ StpAt W W.heap.size x.block (x.off + i * 4) st ∧ ((∀ y ∈ st.cells, -2147483648 ≤ y ∧ y ≤ 2147483647) ∧ st.cells.length ≤ 140737488355328) := by
      intro i
      by_cases h : i < len
      · obtain ⟨cs', hc, ht⟩ := hi i (by omega)
        obtain ⟨st, s1, s2, s3, s4⟩ := open_step3 hc ht (fun n hn => hw n (.inr (.inl (weightsAll_mem (List.mem_map.2 ⟨i, List.mem_range.2 h, rfl⟩) hn))))
        have e : (x.add (i * 4)).block = x.block ∧ (x.add (i * 4)).off = x.off + i * 4 := by
          unfold Addr.add
          split
          · rename_i h0; rw [h0]; exact ⟨rfl, rfl⟩
          · exact ⟨rfl, rfl⟩
        rw [e.1, e.2] at s3
        rw [e.1] at s2
        refine ⟨st, fun _ => ⟨?_, s2, s3, s4⟩⟩
        obtain ⟨cs0, hc0, ht0⟩ := hi 0 (by omega)
        have hx0 : x.add (0 * 4) = x := rfl
        rw [hx0] at hc0
        obtain ⟨_, hcl, hat⟩ := World.cells?_some hc0
        have h0 := hat 0 (by omega)
        rw [List.getElem?_eq_getElem (by omega)] at h0
        exact (spot_of_cell (a := x) h0).1
      · exact ⟨⟨0, [], 0, []⟩, fun h' => absurd h' h⟩
    have hch : ∃ f : Nat → Stp, ∀ i, i < len → x.spot = none ∧ x.block < W.heap.size ∧ StpAt W W.heap.size x.block (x.off + i * 4) (f i) ∧ ((∀ y ∈ (f i).cells, -2147483648 ≤ y ∧ y ≤ 2147483647) ∧ (f i).cells.length ≤ 140737488355328) := ⟨fun i => Classical.choose (hall i), fun i => Classical.choose_spec (hall i)⟩
    obtain ⟨f, hf⟩ := hch
    refine ⟨some x, cap, (List.range len).map f, by simp, ⟨by simpa using hlen, fun i y hy => ?_⟩, fun y hy => ?_⟩
    rotate_left
    · obtain ⟨i, hi2, rfl⟩ := List.mem_map.1 hy
      exact (hf i (List.mem_range.1 hi2)).2.2.2
    rw [List.getElem?_map] at hy
    by_cases h : i < len
    · rw [List.getElem?_range h] at hy
      simp only [Option.map_some, Option.some.injEq] at hy
      subst hy
      obtain ⟨s1, s2, s3, _⟩ := hf i h
      obtain ⟨b, off, sp⟩ := x
      have s1 : sp = none := s1
      subst s1
      exact ⟨b, off, rfl, s2, s3⟩
    · rw [List.getElem?_eq_none (by simpa using h)] at hy
      cases hy

end
end Go.Proofs.Ytapfihlgemejiaa
