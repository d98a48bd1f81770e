/- What a row tells of an argument that is a list of deeds. -/
import Derived.Test.YtapfihlgemejiaaN17
import Derived.Deep.Slices
import Derived.SizedLaws
namespace Go.Proofs.Ytapfihlgemejiaa
open Go.ChangeShapes Go.WideShapes Go.RowKit Go.Deep

structure Dd where
  kind : Int
  num : Int
  den : Int
  i : Int
  j : Int
  n : Int
  b : Int
def In32 (n : Int) : Prop := -2147483648 ≤ n ∧ n ≤ 2147483647
def I64 (n : Int) : Prop := -9223372036854775808 ≤ n ∧ n ≤ 9223372036854775807
/-- A deed lies at offset o of block b. -/
structure DdAt (w : World) (b o : Nat) (x : Dd) : Prop where
  c0 : w.cell? ⟨b, o, none⟩ = some (.int .i64 x.kind)
  c1 : w.cell? ⟨b, o + 1, none⟩ = some (.int .i64 x.num)
  c2 : w.cell? ⟨b, o + 2, none⟩ = some (.int .i64 x.den)
  c3 : w.cell? ⟨b, o + 3, none⟩ = some (.int .i64 x.i)
  c4 : w.cell? ⟨b, o + 4, none⟩ = some (.int .i64 x.j)
  c5 : w.cell? ⟨b, o + 5, none⟩ = some (.int .i64 x.n)
  c6 : w.cell? ⟨b, o + 6, none⟩ = some (.int .i32 x.b)
  rn : I64 x.num
  rd : I64 x.den
  rb : In32 x.b
/-- A list of deeds. -/
def DdsAt (w : World) (A : Option Addr) (l : List Dd) : Prop := l.length ≤ 140737488355328 ∧ ∀ i x, l[i]? = some x → ∃ b o, A = some ⟨b, o, none⟩ ∧ b < w.heap.size ∧ DdAt w b (o + i * 7) x

section
variable {H : Type} {enc : TypeId × Value → H} {W : World}
theorem cellsD3 : Try.prog.cellsOf 3 = 1 := by kernel_rfl
theorem cellsD75 : Try.prog.cellsOf 75 = 2 := by kernel_rfl
theorem cellsD76 : Try.prog.cellsOf 76 = 1 := by kernel_rfl
theorem cellsD94 : Try.prog.cellsOf 94 = 7 := by kernel_rfl
theorem bytesD94 : Try.prog.bytesOf 94 = 56 := by kernel_rfl
theorem cellD {v : Value} {cs : List Value} {j : Nat} (h : cs[j]? = some v) : (cs.drop j).take 1 = [v] := by
  obtain ⟨hl, he⟩ := List.getElem?_eq_some_iff.1 h
  rw [List.drop_eq_getElem_cons hl, he]
  rfl
theorem wf_i32 {n : Int} (h : (Lit.int .i32 n).wf = true) : In32 n := by
  have h' := h
  simp [Lit.wf, IntKind.min, IntKind.max, IntKind.bits, IntKind.signed] at h'
  unfold In32; omega
set_option maxRecDepth 100000 in
theorem open_deed {n : Nat} {a : Addr} {cs : List Value} {x : DataW H × List MemPlace} (hc : W.cells? 0 a 7 = some cs) (h : DataW.trod enc Try.prog W 0 (fun _ => true) true n 94 cs = some x) :
    ∃ y : Dd, a.spot = none ∧ a.block < W.heap.size ∧ DdAt W a.block a.off y := by
  obtain ⟨_, hcl, hat⟩ := World.cells?_some hc
  obtain ⟨ys, m, _, hx, _, hyl, hf⟩ := DataW.trod_struct Try.underlying94 h
  have hyl : ys.length = 6 := hyl
  have f0 : DataW.trod enc Try.prog W 0 (fun _ => true) true m 3 ((cs.drop 0).take (Try.prog.cellsOf 3)) = ys[0]? := hf 0 _ rfl
  have f1 : DataW.trod enc Try.prog W 0 (fun _ => true) true m 75 ((cs.drop 1).take (Try.prog.cellsOf 75)) = ys[1]? := hf 1 _ rfl
  have f2 : DataW.trod enc Try.prog W 0 (fun _ => true) true m 3 ((cs.drop 3).take (Try.prog.cellsOf 3)) = ys[2]? := hf 2 _ rfl
  have f3 : DataW.trod enc Try.prog W 0 (fun _ => true) true m 3 ((cs.drop 4).take (Try.prog.cellsOf 3)) = ys[3]? := hf 3 _ rfl
  have f4 : DataW.trod enc Try.prog W 0 (fun _ => true) true m 3 ((cs.drop 5).take (Try.prog.cellsOf 3)) = ys[4]? := hf 4 _ rfl
  have f5 : DataW.trod enc Try.prog W 0 (fun _ => true) true m 76 ((cs.drop 6).take (Try.prog.cellsOf 76)) = ys[5]? := hf 5 _ rfl
  rw [cellsD3] at f0 f2 f3 f4
  rw [cellsD75] at f1
  rw [cellsD76] at f5
  match cs, hcl with
  | [v0, v1, v2, v3, v4, v5, v6], _ =>
    rw [List.getElem?_eq_getElem (by omega)] at f0 f1 f2 f3 f4 f5
    obtain ⟨k0, e0, _, w0⟩ := DataW.trod_int Try.underlying3 f0
    obtain ⟨zs, m2, _, _, _, hzl, hg⟩ := DataW.trod_struct Try.underlying75 f1
    have hzl : zs.length = 2 := hzl
    have g0 := hg 0 _ rfl
    have g1 := hg 1 _ rfl
    obtain ⟨ka, kb, eab, ra, rb⟩ := two_ints (t := 2) Try.underlying2 rfl hzl g0 g1
    obtain ⟨k3, e3, _, w3⟩ := DataW.trod_int Try.underlying3 f2
    obtain ⟨k4, e4, _, w4⟩ := DataW.trod_int Try.underlying3 f3
    obtain ⟨k5, e5, _, w5⟩ := DataW.trod_int Try.underlying3 f4
    obtain ⟨k6, e6, _, w6⟩ := DataW.trod_int Try.underlying76 f5
    simp at e0 eab e3 e4 e5 e6
    obtain ⟨e1, e2⟩ := eab
    subst e0 e1 e2 e3 e4 e5 e6
    have h0 := hat 0 (by omega)
    obtain ⟨s1, s2⟩ := spot_of_cell (a := a) h0
    have hall : ∀ j u, j < 7 → [Value.int .i64 k0, .int .i64 ka, .int .i64 kb, .int .i64 k3, .int .i64 k4, .int .i64 k5, .int .i32 k6][j]? = some u → W.cell? ⟨a.block, a.off + j, none⟩ = some u := fun j u hj hu => by
      have h1 := hat j hj
      rw [hu] at h1
      obtain ⟨b, off, sp⟩ := a
      have s1 : sp = none := s1
      subst s1
      rw [Addr.add_lit] at h1
      exact h1
    exact ⟨⟨k0, ka, kb, k3, k4, k5, k6⟩, s1, s2, ⟨hall 0 _ (by omega) rfl, hall 1 _ (by omega) rfl, hall 2 _ (by omega) rfl, hall 3 _ (by omega) rfl, hall 4 _ (by omega) rfl, hall 5 _ (by omega) rfl, hall 6 _ (by omega) rfl, ra, rb, wf_i32 w6⟩⟩
set_option maxRecDepth 100000 in
theorem open_deeds {base : Nat} {v : Value} {d : DataW H} {ps : List MemPlace} (hv : Value.okWide Try.prog W .any base 91 v) (h : DataW.Trod enc Try.prog W 0 (fun _ => true) true 91 v d ps)
    (hw : ∀ n ∈ d.weights Try.prog 91, n ≤ reachBytes) : ∃ A c, ∃ l : List Dd, v = .slice A l.length c ∧ DdsAt W A l := by
  obtain ⟨a, len, cap, rfl⟩ := okWide_slice Try.underlying91 hv
  obtain ⟨fuel, hf⟩ := h
  rcases open_slice Try.underlying91 hf with ⟨hcs, _⟩ | ⟨x, l, c, m, n, D, Pl, hcs, _, hl, hm, hmm, hx, hi⟩
  · simp [Value.cells] at hcs
    obtain ⟨rfl, rfl, rfl⟩ := hcs
    exact ⟨none, 0, [], rfl, Nat.zero_le _, fun i x hx => by simp at hx⟩
  · simp [Value.cells] at hcs
    obtain ⟨rfl, rfl, rfl⟩ := hcs
    simp only [if_true] at hmm
    simp only [Prod.mk.injEq] at hx
    rw [hx.1] at hw
    simp only [DataW.weights, Try.underlying91, List.mem_cons, List.mem_append] at hw
    have hlen : len ≤ 140737488355328 := by
      have h1 := hw _ (.inl rfl)
      rw [bytesD94] at h1
      simp only [List.length_map, List.length_range] at h1
      have : reachBytes ≤ 140737488355328 := by decide
      omega
    rw [cellsD94] at hi
    have hall : ∀ i, ∃ y : Dd, i < len → x.spot = none ∧ x.block < W.heap.size ∧ DdAt W x.block (x.off + i * 7) y := by
      intro i
      by_cases h : i < len
      · obtain ⟨cs', hc, ht⟩ := hi i (by omega)
        obtain ⟨y, s1, s2, s3⟩ := open_deed hc ht
        have e : (x.add (i * 7)).block = x.block ∧ (x.add (i * 7)).off = x.off + i * 7 := by
          unfold Addr.add
          split
          · rename_i h0; rw [h0]; exact ⟨rfl, rfl⟩
          · exact ⟨rfl, rfl⟩
        rw [e.1, e.2] at s3
        rw [e.1] at s2
        refine ⟨y, fun _ => ⟨?_, s2, s3⟩⟩
        obtain ⟨cs0, hc0, ht0⟩ := hi 0 (by omega)
        have hx0 : x.add (0 * 7) = x := rfl
        rw [hx0] at hc0
        exact (open_deed hc0 ht0).choose_spec.1
      · exact ⟨⟨0, 0, 0, 0, 0, 0, 0⟩, fun h' => absurd h' h⟩
    obtain ⟨f, hf⟩ : ∃ f : Nat → Dd, ∀ i, i < len → x.spot = none ∧ x.block < W.heap.size ∧ DdAt W x.block (x.off + i * 7) (f i) := ⟨fun i => Classical.choose (hall i), fun i => Classical.choose_spec (hall i)⟩
    refine ⟨some x, cap, (List.range len).map f, by simp, by simpa using hlen, fun i y hy => ?_⟩
    rw [List.getElem?_map] at hy
    by_cases h : i < len
    · rw [List.getElem?_range h] at hy
      simp only [Option.map_some, Option.some.injEq] at hy
      subst hy
      obtain ⟨s1, s2, s3⟩ := hf i h
      obtain ⟨b, off, sp⟩ := x
      have s1 : sp = none := s1
      subst s1
      exact ⟨b, off, rfl, s2, s3⟩
    · rw [List.getElem?_eq_none (by simpa using h)] at hy
      cases hy
end
end Go.Proofs.Ytapfihlgemejiaa
