/- gnomonref03.Cells, SameCells; reduce.Unpack of any bytes; bytes that come in with their capacity. -/
import Derived.Test.YtapfihlgemejiaaQ15
import Derived.Test.YtapfihlgemejiaaC3
namespace Go.Proofs.Ytapfihlgemejiaa
open Go.RowKit
set_option maxHeartbeats 1000000 in
theorem rcells_any (b : Nat) (z : Zn) (w : World) (h : RefAt w b z) : Calls Try.prog 80 #[.pointer (some ⟨b, 0, none⟩)] w (CellsPost z w) := by
  obtain ⟨i0, hi0, hz0, hz1, hz2⟩ := info_parts infoOf76
  obtain ⟨A, c, h1, h2⟩ := h.row
  have hd := h.dim
  have c0 := h1.cell 0
  have c1 := h1.cell 1
  obtain ⟨m, hm⟩ : ∃ m, (z.n + 1) * (z.n + 1) = m := ⟨_, rfl⟩
  have hsq : m ≤ 81 := by
    have h1 : (z.n + 1) * (z.n + 1) ≤ 9 * 9 := Nat.mul_le_mul (by omega) (by omega)
    omega
  have hcl := cellsOf_length z
  rw [hm] at c1 hcl
  simp only [List.getElem?_cons_zero, List.getElem?_cons_succ] at c0 c1
  obtain ⟨C, hC⟩ : ∃ C, cellsOf z = C := ⟨_, rfl⟩
  rw [hC] at h2 hcl
  have HC := Lib.hid hC
  have HEL := Lib.hid h2
  have HCL := Lib.hid hcl
  unfold CellsPost
  rw [hC, hcl]
  clear h h1 h2 hm hC hcl
  have hO := World.ownsRow_nil (w := w) w.heap.size 76 1
  go_enter Try.func80, Try.ntmps80
  go_wp2_with (at_builtin; (refine wpList_append_elems rfl _ _ 40 rfl w.heap.size 76 i0 (.int .i32 0) 1 4 Try.underlying40 hi0 hz0 hz1 hz2 rfl (by decide) _ 0 _ (by rfl) hO _ A m c _ (by rfl) HEL.out ?c0 (ints32_one _) ?c2 ?c3 (Nat.le_refl _) ?_))
  case c0 => rw [ints32_length, HCL.out, Nat.mul_one]
  case c2 => unfold maxLen; omega
  case c3 => omega
  intro v' w' ho' hg' hb'
  have hN : New w w' := Fr.of_grown hg' (fun k hk _ => by cases hk)
  have HO := Lib.hid ho'
  clear ho' hg' hb'
  go_wp2_with fail
  go_ret
  exact ⟨_, rfl, HO.out, hN⟩
set_option maxHeartbeats 400000 in
theorem rcells_nil (w : World) : Calls Try.prog 80 #[.pointer none] w fun e w' => e = .returned (.slice none 0 0) ∧ w = w' := by
  go_enter Try.func80, Try.ntmps80
  go_wp2
  go_ret
  exact ⟨rfl, rfl⟩
set_option maxRecDepth 100000 in
set_option maxHeartbeats 1000000 in
theorem rsame_cells (A B : Option Addr) (c d : Nat) (l : List Int) (w : World) (hA : Elems w w.heap.size A (l.map (Value.int .i32))) (hB : Elems w w.heap.size B (l.map (Value.int .i32))) (hl : l.length < 4611686018427387904) :
    Calls Try.prog 79 #[.slice A l.length c, .slice B l.length d] w fun e w' => e = .returned (.bool true) ∧ Drew w w' := by
  have HA := Lib.hid hA
  have HB := Lib.hid hB
  clear hA hB
  go_enter Try.func79, Try.ntmps79
  go_wp2_with fail
  go_loopw [5] (fun ci wr => ∃ k : Nat, k ≤ l.length ∧ ci = .int .i64 k ∧ Drew w wr) (fun cn _ => l.length - (intOf cn).toNat)
  case atStart => exact ⟨0, by omega, rfl, Drew.refl w⟩
  case round =>
    obtain ⟨k, hk, rfl, hd⟩ := hrel
    by_cases hlt : k < l.length
    · have hkk : (k : Int) < l.length := by omega
      obtain ⟨b1, o1, rfl, hb1, hc1⟩ := (HA.out.new hd.new (Nat.le_refl _)).ints k hlt
      obtain ⟨b2, o2, rfl, hb2, hc2⟩ := (HB.out.new hd.new (Nat.le_refl _)).ints k hlt
      generalize gt l k = x at *
      have hxx : (x == x) = true := by simp
      go_wp2_with fail
      go_quiet (fail)
      go_wp2_with fail
      exact ⟨⟨k + 1, by omega, by go_num, hd.drewN _⟩, by simp [intOf]; omega⟩
    · have hkk : ¬ (k : Int) < l.length := by omega
      go_wp2_with fail
      go_ret
      exact ⟨rfl, hd⟩
/-- Bytes that came in, with what their capacity is. -/
def BytesCap (w : World) (A : Option Addr) (c : Nat) (l : List Int) : Prop := BytesIn w A l ∧ l.length ≤ c ∧ c ≤ maxLen
section
open Go.ChangeShapes Go.WideShapes
variable {H : Type} {enc : TypeId × Value → H} {W : World}
set_option maxRecDepth 100000 in
theorem open_bytesCap {base : Nat} {v : Value} {d : DataW H} {ps : List MemPlace} (hv : Value.okWide Try.prog W .any base 30 v) (h : DataW.Trod enc Try.prog W 0 (fun _ => true) true 30 v d ps)
    (hw : ∀ n ∈ d.weights Try.prog 30, n ≤ reachBytes) : ∃ A c, ∃ l : List Int, v = .slice A l.length c ∧ BytesCap W A c l := by
  have h0 := h
  obtain ⟨a, len, cap, rfl⟩ := okWide_slice Try.underlying30 hv
  obtain ⟨fuel, hf⟩ := h
  obtain ⟨A, c, l, e, hb⟩ := open_bytesIn hv h0 hw
  cases e
  refine ⟨a, cap, l, rfl, hb, ?_⟩
  rcases open_ints Try.underlying30 Try.underlying5 cellsA5 hf with ⟨hcs, _⟩ | ⟨a', len', cap', zs, hcs, _, hl, hm, _⟩
  · simp only [Value.cells] at hcs
    simp at hcs
    obtain ⟨_, h2, h3⟩ := hcs
    subst h2
    subst h3
    exact ⟨Nat.le_refl _, Nat.zero_le _⟩
  · simp only [Value.cells] at hcs
    simp at hcs
    obtain ⟨_, h2, h3⟩ := hcs
    subst h2
    subst h3
    exact ⟨hl, hm⟩
end
theorem BytesCap.at_ {w W : World} {A : Option Addr} {c : Nat} {l : List Int} (h : BytesCap w A c l) (hn : New w W) : BytesAt W A c l := by
  obtain ⟨⟨hE, h1, h2⟩, h3, h4⟩ := h
  refine ⟨h3, h1, h2, h4, fun hne => ?_⟩
  have hpos : 0 < l.length := List.length_pos_iff.2 hne
  obtain ⟨a, off, hA, _⟩ := hE (by rw [List.length_map]; exact hpos)
  refine ⟨a, off, hA, fun W' hW k hk => ?_⟩
  obtain ⟨a', off', hA', _, hc⟩ := (hE.new (hn.trans hW) (Nat.le_refl _)).ints (k := .u8) k hk
  rw [hA] at hA'
  cases hA'
  exact hc
set_option maxRecDepth 100000 in
set_option maxHeartbeats 4000000 in
theorem unpack_any (A : Option Addr) (c : Nat) (b : List Int) (w : World) (hb : BytesAt w A c b) :
    Calls Try.prog 76 #[.slice A b.length c] w fun e w' => URet w (unpackR b) e w' ∧ New w w' := by
  by_cases h0 : b = []
  · subst h0
    have hu : unpackR [] = .bad 0 := by unfold unpackR; rw [if_pos (.inl rfl)]
    have HU := Lib.hid hu
    clear hu hb
    simp only [List.length_nil]
    go_enter Try.func76, Try.ntmps76
    go_wp2_with fail
    go_ret3
    exact ⟨by rw [HU.out]; rfl, New.refl w⟩
  · obtain ⟨hcap, hby, hbl, hcm, hrd⟩ := hb
    obtain ⟨a, off, hA, hcell⟩ := hrd h0
    subst hA
    have hpos : 0 < b.length := List.length_pos_iff.2 h0
    have x0 := hby _ (gt_mem hpos)
    have s0 := hcell w (New.refl w) 0 hpos
    rw [Nat.add_zero] at s0
    by_cases h8 : 8 < gt b 0
    · have hu : unpackR b = .bad 0 := by unfold unpackR; rw [if_pos (.inr h8)]
      have HU := Lib.hid hu
      obtain ⟨L, hL⟩ : ∃ L, b.length = L := ⟨_, rfl⟩
      rw [hL] at hpos hbl ⊢
      have hLz : ((L : Int) == 0) = false := by simp; omega
      clear hu hcap hby hcm hcell hrd h0 hL
      generalize gt b 0 = x at *
      go_enter Try.func76, Try.ntmps76
      go_wp2_with fail
      go_ret3
      exact ⟨by rw [HU.out]; rfl, New.refl w⟩
    · by_cases h1 : b.length = 1
      · have hu : unpackR b = .bad 1 := by unfold unpackR; rw [if_neg (by rintro (h | h); exact h0 h; exact h8 h), if_pos h1]
        have HU := Lib.hid hu
        rw [h1]
        clear hu hcap hby hcm hcell hrd h0 hbl h1 hpos
        generalize gt b 0 = x at *
        go_enter Try.func76, Try.ntmps76
        go_wp2_with fail
        go_ret3
        exact ⟨by rw [HU.out]; rfl, New.refl w⟩
      · have hpos1 : 1 < b.length := by omega
        have x1 := hby _ (gt_mem hpos1)
        obtain ⟨n, hn⟩ : ∃ n : Nat, gt b 0 = n := ⟨(gt b 0).toNat, by omega⟩
        obtain ⟨m, hm⟩ : ∃ m : Nat, gt b 1 = m := ⟨(gt b 1).toNat, by omega⟩
        by_cases hlen : b.length = 2 + 5 * m
        · exact unpack_main (some ⟨a, off, none⟩) c b n m w ⟨hcap, hby, hbl, hcm, hrd⟩ hn (by omega) hm hlen
        · have s1 := hcell w (New.refl w) 1 hpos1
          have hu : unpackR b = .bad (if (b.length : Int) < 2 + 5 * gt b 1 then b.length else 2 + 5 * gt b 1) := by
            unfold unpackR
            rw [if_neg (by rintro (h | h); exact h0 h; exact h8 h), if_neg h1, if_pos (by rw [hm]; omega)]
          rw [hn] at s0 x0 h8
          rw [hm] at s1 x1 hu
          obtain ⟨L, hL⟩ : ∃ L, b.length = L := ⟨_, rfl⟩
          rw [hL] at hpos1 hbl hlen hu ⊢
          have HU := Lib.hid hu
          have hLz : ((L : Int) == 0) = false := by simp; omega
          have hL1 : ((L : Int) == 1) = false := by simp; omega
          have hLe : ((L : Int) != 2 + 5 * (m : Int)) = true := by simp; omega
          have hLe' : ((L : Int) == 2 + 5 * (m : Int)) = false := by simp; omega
          clear hu hcap hby hcm hcell hrd h0 hL h1 hn hm hpos
          by_cases hlt : (L : Int) < 2 + 5 * (m : Int)
          · rw [if_pos hlt] at HU
            go_enter Try.func76, Try.ntmps76
            go_wp2_with fail
            go_quiet (fail)
            go_wp2_with fail
            go_ret3
            refine ⟨?_, (New.refl w).drewN _⟩
            rw [HU.out]
            show _ = _
            congr 1
          · rw [if_neg hlt] at HU
            go_enter Try.func76, Try.ntmps76
            go_wp2_with fail
            go_quiet (fail)
            go_wp2_with fail
            go_ret3
            refine ⟨?_, (New.refl w).drewN _⟩
            rw [HU.out]
            show _ = _
            congr 1
end Go.Proofs.Ytapfihlgemejiaa
