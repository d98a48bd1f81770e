/- What a row tells of an argument that is a list of bytes, of bounds, of limits, in the words of the walks. -/
import Derived.Test.YtapfihlgemejiaaF1
import Derived.Test.YtapfihlgemejiaaD3
import Derived.Test.YtapfihlgemejiaaRows
import Derived.Deep.Slices
import Derived.ChangeSame
import Derived.SizedLaws
namespace Go.Proofs.Ytapfihlgemejiaa
open Go.ChangeShapes Go.WideShapes Go.RowKit Go.Deep

section
variable {H : Type} {enc : TypeId × Value → H} {W : World}
theorem cellOne {v : Value} {cs : List Value} {j : Nat} (h : cs[j]? = some v) : (cs.drop j).take 1 = [v] := by
  obtain ⟨hl, he⟩ := List.getElem?_eq_some_iff.1 h
  rw [List.drop_eq_getElem_cons hl, he]
  rfl
/-- A value that is a list of numbers. -/
theorem open_list_ints {t e : TypeId} {k : IntKind} {fuel : Nat} {v : Value} {x : DataW H × List MemPlace} (ht : Try.prog.underlying t = some (.slice e)) (he : Try.prog.underlying e = some (.int k)) (hc : Try.prog.cellsOf e = 1)
    (h : DataW.trod enc Try.prog W 0 (fun _ => true) true fuel t [v] = some x) :
    ∃ A c, ∃ l : List Int, v = .slice A l.length c ∧ Elems W W.heap.size A (l.map (Value.int k)) ∧ (∀ n ∈ l, (Lit.int k n).wf = true) ∧ ∀ b, (∀ n ∈ x.1.weights Try.prog t, n ≤ b) → l.length * Try.prog.bytesOf e ≤ b := by
  rcases open_ints ht he hc h with ⟨hcs, _⟩ | ⟨a, len, cap, zs, hcs, _, hl, hm, hz, hx, hcell, hwz⟩
  · simp only [List.cons.injEq, and_true] at hcs
    subst hcs
    exact ⟨none, 0, [], rfl, Elems.nil _ _ _, (fun n hn => absurd hn (by simp)), (fun b _ => by simp)⟩
  · simp only [List.cons.injEq, and_true] at hcs
    subst hcs
    simp only [if_true] at hz
    have hlen : (zs.take len).length = len := by rw [List.length_take]; omega
    refine ⟨some a, cap, zs.take len, by rw [hlen], elems_of_cells hcell (by omega), fun n hn => hwz n (List.mem_of_mem_take hn), fun b hb => ?_⟩
    rw [hx] at hb
    have h1 := hb (((lits k (zs.take len) : List (DataW H)).length + (lits k (zs.drop len) : List (DataW H)).length) * Try.prog.bytesOf e) (by simp [DataW.weights, ht])
    refine Nat.le_trans (Nat.mul_le_mul_right _ ?_) h1
    simp [lits]
theorem cellsA3 : Try.prog.cellsOf 3 = 1 := by kernel_rfl
theorem cellsA5 : Try.prog.cellsOf 5 = 1 := by kernel_rfl
theorem cellsA76 : Try.prog.cellsOf 76 = 1 := by kernel_rfl
theorem cellsA100 : Try.prog.cellsOf 100 = 3 := by kernel_rfl
theorem bytesA5 : Try.prog.bytesOf 5 = 1 := by kernel_rfl
theorem bytesA76 : Try.prog.bytesOf 76 = 4 := by kernel_rfl
theorem bytesA100 : Try.prog.bytesOf 100 = 24 := by kernel_rfl
theorem reachA : reachBytes ≤ 140737488355328 := by decide

/-- A list of bytes that came in. -/
def BytesIn (w : World) (A : Option Addr) (l : List Int) : Prop := Elems w w.heap.size A (l.map (Value.int .u8)) ∧ (∀ x ∈ l, 0 ≤ x ∧ x ≤ 255) ∧ l.length ≤ 140737488355328
/-- A list of bounds that came in. -/
def BoundsIn (w : World) (A : Option Addr) (l : List Int) : Prop := Elems w w.heap.size A (l.map (Value.int .i32)) ∧ (∀ x ∈ l, -2147483648 ≤ x ∧ x ≤ 2147483647) ∧ l.length ≤ 140737488355328
/-- A list of limits that came in. -/
def LimsIn (w : World) (A : Option Addr) (l : List Lim) : Prop := Elems w w.heap.size A (limRow l) ∧ (∀ x ∈ l, (-9223372036854775808 ≤ x.i ∧ x.i ≤ 9223372036854775807) ∧ (-9223372036854775808 ≤ x.j ∧ x.j ≤ 9223372036854775807) ∧ -2147483648 ≤ x.b ∧ x.b ≤ 2147483647) ∧ l.length ≤ 140737488355328

set_option maxRecDepth 100000 in
theorem open_bytesIn {base : Nat} {v : Value} {d : DataW H} {ps : List MemPlace} (hv : Value.okWide Try.prog W .any base 30 v) (h : DataW.Trod enc Try.prog W 0 (fun _ => true) true 30 v d ps)
    (hw : ∀ n ∈ d.weights Try.prog 30, n ≤ reachBytes) : ∃ A c, ∃ l : List Int, v = .slice A l.length c ∧ BytesIn W A l := by
  obtain ⟨a, len, cap, rfl⟩ := okWide_slice Try.underlying30 hv
  obtain ⟨fuel, hf⟩ := h
  obtain ⟨A, c, l, e, h1, h2, h3⟩ := open_list_ints Try.underlying30 Try.underlying5 cellsA5 hf
  refine ⟨A, c, l, e, h1, fun y hy => ?_, ?_⟩
  · have := h2 y hy
    simpa [Lit.wf, IntKind.has, IntKind.min, IntKind.max, IntKind.signed, IntKind.bits] using this
  · have := h3 reachBytes hw
    rw [bytesA5, Nat.mul_one] at this
    exact Nat.le_trans this reachA
set_option maxRecDepth 100000 in
theorem open_bounds {base : Nat} {v : Value} {d : DataW H} {ps : List MemPlace} (hv : Value.okWide Try.prog W .any base 40 v) (h : DataW.Trod enc Try.prog W 0 (fun _ => true) true 40 v d ps)
    (hw : ∀ n ∈ d.weights Try.prog 40, n ≤ reachBytes) : ∃ A c, ∃ l : List Int, v = .slice A l.length c ∧ BoundsIn W A l := by
  obtain ⟨a, len, cap, rfl⟩ := okWide_slice Try.underlying40 hv
  obtain ⟨fuel, hf⟩ := h
  obtain ⟨A, c, l, e, h1, h2, h3⟩ := open_list_ints Try.underlying40 Try.underlying76 cellsA76 hf
  refine ⟨A, c, l, e, h1, fun y hy => ?_, ?_⟩
  · have := h2 y hy
    simpa [Lit.wf, IntKind.has, IntKind.min, IntKind.max, IntKind.signed, IntKind.bits] using this
  · have := h3 reachBytes hw
    rw [bytesA76] at this
    have := reachA
    omega
theorem open_lim {n : Nat} {a : Addr} {cs : List Value} {x : DataW H × List MemPlace} (hc : W.cells? 0 a 3 = some cs) (h : DataW.trod enc Try.prog W 0 (fun _ => true) true n 100 cs = some x) :
    ∃ y : Lim, a.spot = none ∧ a.block < W.heap.size ∧ cs = [.int .i64 y.i, .int .i64 y.j, .int .i32 y.b] ∧ ((-9223372036854775808 ≤ y.i ∧ y.i ≤ 9223372036854775807) ∧ (-9223372036854775808 ≤ y.j ∧ y.j ≤ 9223372036854775807) ∧ -2147483648 ≤ y.b ∧ y.b ≤ 2147483647) ∧
      ∀ j u, cs[j]? = some u → W.cell? ⟨a.block, a.off + j, none⟩ = some u := by
  obtain ⟨_, hcl, hat⟩ := World.cells?_some hc
  obtain ⟨ys, m, _, hx, _, hyl, hf⟩ := DataW.trod_struct Try.underlying100 h
  have hyl : ys.length = 3 := hyl
  have f0 : DataW.trod enc Try.prog W 0 (fun _ => true) true m 3 ((cs.drop 0).take (Try.prog.cellsOf 3)) = ys[0]? := hf 0 _ rfl
  have f1 : DataW.trod enc Try.prog W 0 (fun _ => true) true m 3 ((cs.drop 1).take (Try.prog.cellsOf 3)) = ys[1]? := hf 1 _ rfl
  have f2 : DataW.trod enc Try.prog W 0 (fun _ => true) true m 76 ((cs.drop 2).take (Try.prog.cellsOf 76)) = ys[2]? := hf 2 _ rfl
  have c0 : cs[0]? = some (cs[0]'(by omega)) := List.getElem?_eq_getElem _
  have c1 : cs[1]? = some (cs[1]'(by omega)) := List.getElem?_eq_getElem _
  have c2 : cs[2]? = some (cs[2]'(by omega)) := List.getElem?_eq_getElem _
  rw [cellsA3] at f0 f1
  rw [cellsA76] at f2
  rw [cellOne c0, List.getElem?_eq_getElem (by omega)] at f0
  rw [cellOne c1, List.getElem?_eq_getElem (by omega)] at f1
  rw [cellOne c2, List.getElem?_eq_getElem (by omega)] at f2
  obtain ⟨k0, e0, _, w0⟩ := DataW.trod_int Try.underlying3 f0
  obtain ⟨k1, e1, _, w1⟩ := DataW.trod_int Try.underlying3 f1
  obtain ⟨k2, e2, _, w2⟩ := DataW.trod_int Try.underlying76 f2
  simp only [List.cons.injEq, and_true] at e0 e1 e2
  have hcs : cs = [.int .i64 k0, .int .i64 k1, .int .i32 k2] := by
    apply List.ext_getElem (by simp [hcl])
    intro i hi1 hi2
    match i, hi1 with
    | 0, _ => exact e0
    | 1, _ => exact e1
    | 2, _ => exact e2
    | i + 3, hi => omega
  have h0 := hat 0 (by omega)
  rw [c0] at h0
  obtain ⟨s1, s2⟩ := spot_of_cell (a := a) h0
  refine ⟨⟨k0, k1, k2⟩, s1, s2, hcs, ⟨?_, ?_, ?_⟩, fun j u hu => ?_⟩
  · have h' := w0
    simp [Lit.wf, IntKind.min, IntKind.max, IntKind.bits, IntKind.signed] at h'
    exact (show -9223372036854775808 ≤ k0 ∧ k0 ≤ 9223372036854775807 by omega)
  · have h' := w1
    simp [Lit.wf, IntKind.min, IntKind.max, IntKind.bits, IntKind.signed] at h'
    exact (show -9223372036854775808 ≤ k1 ∧ k1 ≤ 9223372036854775807 by omega)
  · have h' := w2
    simp [Lit.wf, IntKind.min, IntKind.max, IntKind.bits, IntKind.signed] at h'
    exact (show -2147483648 ≤ k2 ∧ k2 ≤ 2147483647 by omega)
  · have hj := (List.getElem?_eq_some_iff.1 hu).1
    have h1 := hat j (by omega)
    rw [hu] at h1
    obtain ⟨b, off, sp⟩ := a
    have s1 : sp = none := s1
    subst s1
    rw [Addr.add_lit] at h1
    exact h1
theorem LimsIn.nil (w : World) (A : Option Addr) : LimsIn w A [] := ⟨(Elems.nil w w.heap.size A : Elems w w.heap.size A []), (fun x hx => by cases hx), Nat.zero_le _⟩
set_option maxRecDepth 100000 in
theorem open_limits {base : Nat} {v : Value} {d : DataW H} {ps : List MemPlace} (hv : Value.okWide Try.prog W .any base 113 v) (h : DataW.Trod enc Try.prog W 0 (fun _ => true) true 113 v d ps)
    (hw : ∀ n ∈ d.weights Try.prog 113, n ≤ reachBytes) : ∃ A c, ∃ l : List Lim, v = .slice A l.length c ∧ LimsIn W A l := by
  obtain ⟨a, len, cap, rfl⟩ := okWide_slice Try.underlying113 hv
  obtain ⟨fuel, hf⟩ := h
  rcases open_slice Try.underlying113 hf with ⟨hcs, _⟩ | ⟨x, l, c, m, n, D, Pl, hcs, _, hl, hm, hmm, hx, hi⟩
  · simp [Value.cells] at hcs
    obtain ⟨rfl, rfl, rfl⟩ := hcs
    exact ⟨none, 0, [], rfl, LimsIn.nil _ _⟩
  · simp [Value.cells] at hcs
    obtain ⟨rfl, rfl, rfl⟩ := hcs
    simp only [if_true] at hmm
    simp only [Prod.mk.injEq] at hx
    rw [hx.1] at hw
    simp only [DataW.weights, Try.underlying113, List.mem_cons, List.mem_append] at hw
    have hlen : len ≤ 140737488355328 := by
      have h1 := hw _ (.inl rfl)
      rw [bytesA100] at h1
      simp only [List.length_map, List.length_range] at h1
      have := reachA
      omega
    rw [cellsA100] at hi
    have hall : ∀ i, ∃ y : Lim, i < len → x.spot = none ∧ x.block < W.heap.size ∧ ((-9223372036854775808 ≤ y.i ∧ y.i ≤ 9223372036854775807) ∧ (-9223372036854775808 ≤ y.j ∧ y.j ≤ 9223372036854775807) ∧ -2147483648 ≤ y.b ∧ y.b ≤ 2147483647) ∧
        W.cell? ⟨x.block, x.off + i * 3, none⟩ = some (.int .i64 y.i) ∧ W.cell? ⟨x.block, x.off + i * 3 + 1, none⟩ = some (.int .i64 y.j) ∧ W.cell? ⟨x.block, x.off + i * 3 + 2, none⟩ = some (.int .i32 y.b) := by
      intro i
      by_cases h : i < len
      · obtain ⟨cs', hc, ht⟩ := hi i (by omega)
        obtain ⟨y, s1, s2, s3, s4, s5⟩ := open_lim hc ht
        have e : (x.add (i * 3)).block = x.block ∧ (x.add (i * 3)).off = x.off + i * 3 := by
          unfold Addr.add
          split
          · rename_i h0; rw [h0]; exact ⟨rfl, rfl⟩
          · exact ⟨rfl, rfl⟩
        rw [e.1, e.2] at s5
        rw [e.1] at s2
        subst s3
        refine ⟨y, fun _ => ⟨?_, s2, s4, s5 0 _ rfl, s5 1 _ rfl, s5 2 _ rfl⟩⟩
        obtain ⟨cs0, hc0, ht0⟩ := hi 0 (by omega)
        have hx0 : x.add (0 * 3) = x := rfl
        rw [hx0] at hc0
        exact (open_lim hc0 ht0).choose_spec.1
      · exact ⟨⟨0, 0, 0⟩, fun h' => absurd h' h⟩
    obtain ⟨f, hf⟩ : ∃ f : Nat → Lim, ∀ i, i < len → x.spot = none ∧ x.block < W.heap.size ∧ ((-9223372036854775808 ≤ (f i).i ∧ (f i).i ≤ 9223372036854775807) ∧ (-9223372036854775808 ≤ (f i).j ∧ (f i).j ≤ 9223372036854775807) ∧ -2147483648 ≤ (f i).b ∧ (f i).b ≤ 2147483647) ∧
        W.cell? ⟨x.block, x.off + i * 3, none⟩ = some (.int .i64 (f i).i) ∧ W.cell? ⟨x.block, x.off + i * 3 + 1, none⟩ = some (.int .i64 (f i).j) ∧ W.cell? ⟨x.block, x.off + i * 3 + 2, none⟩ = some (.int .i32 (f i).b) := ⟨fun i => Classical.choose (hall i), fun i => Classical.choose_spec (hall i)⟩
    have hget : ∀ t, t < len → ((List.range len).map f).getD t ⟨0, 0, 0⟩ = f t := fun t ht => by
      rw [List.getD_eq_getElem?_getD, List.getElem?_map, List.getElem?_range ht]; rfl
    refine ⟨some x, cap, (List.range len).map f, by simp, fun h0 => ?_, fun y hy => ?_, by simpa using hlen⟩
    · have hl0 : 0 < len := by
        rw [limRow_length] at h0
        simp at h0
        omega
      obtain ⟨s1, s2, _⟩ := hf 0 hl0
      obtain ⟨b, off, sp⟩ := x
      have s1 : sp = none := s1
      subst s1
      refine ⟨b, off, rfl, s2, fun j u hu => ?_⟩
      have hj : j < 3 * len := by
        have := (List.getElem?_eq_some_iff.1 hu).1
        rw [limRow_length] at this
        simpa using this
      obtain ⟨t, r, hr, hj2⟩ : ∃ t r, r < 3 ∧ j = 3 * t + r := ⟨j / 3, j % 3, by omega, by omega⟩
      subst hj2
      have ht : t < len := by omega
      obtain ⟨g1, g2, g3⟩ := limRow_get ((List.range len).map f) t (by simpa using ht)
      rw [hget t ht] at g1 g2 g3
      obtain ⟨_, _, _, k0, k1, k2⟩ := hf t ht
      match r, hr with
      | 0, _ => rw [Nat.add_zero] at hu ⊢; rw [g1] at hu; rw [← hu, Nat.mul_comm 3 t]; exact k0
      | 1, _ => rw [g2] at hu; rw [← hu, Nat.mul_comm 3 t, ← Nat.add_assoc]; exact k1
      | 2, _ => rw [g3] at hu; rw [← hu, Nat.mul_comm 3 t, ← Nat.add_assoc]; exact k2
    · rw [List.mem_map] at hy
      obtain ⟨i, hi2, rfl⟩ := hy
      exact (hf i (List.mem_range.1 hi2)).2.2.1
end
end Go.Proofs.Ytapfihlgemejiaa
