/- gnomonmem: are two lists the same? -/
import Derived.Test.YtapfihlgemejiaaVM3
namespace Go.Proofs.Ytapfihlgemejiaa
open Go.RowKit
theorem take_same {l m : List Int} {k : Nat} (h : l.take k = m.take k) (hl : k < l.length) (hm : k < m.length) (he : gt l k = gt m k) : l.take (k + 1) = m.take (k + 1) := by
  rw [List.take_add_one, List.take_add_one, h, List.getElem?_eq_getElem hl, List.getElem?_eq_getElem hm]
  unfold gt at he
  rw [List.getD_eq_getElem?_getD, List.getD_eq_getElem?_getD, List.getElem?_eq_getElem hl, List.getElem?_eq_getElem hm] at he
  simp only [Option.getD_some] at he
  rw [he]
theorem take_other {l m : List Int} {k : Nat} (he : gt l k ≠ gt m k) : l ≠ m := fun e => he (by rw [e])

set_option maxRecDepth 100000 in
set_option maxHeartbeats 1000000 in
theorem sameInts_any (A B : Option Addr) (c d : Nat) (l m : List Int) (w : World) (hA : Elems w w.heap.size A (l.map (Value.int .i64))) (hB : Elems w w.heap.size B (m.map (Value.int .i64))) (hl : l.length < 4611686018427387904) :
    Calls Try.prog 37 #[.slice A l.length c, .slice B m.length d] w fun e w' => e = .returned (.bool (decide (l = m))) ∧ Drew w w' := by
  by_cases hlen : l.length = m.length
  · have HA := Lib.hid hA
    have HB := Lib.hid hB
    clear hA hB
    have HLEN := Lib.hid hlen
    rw [← hlen]
    clear hlen
    go_enter Try.func37, Try.ntmps37
    go_wp2_with fail
    go_loopw [5] (fun ci wr => ∃ k : Nat, k ≤ l.length ∧ ci = .int .i64 k ∧ Drew w wr ∧ l.take k = m.take k) (fun cn _ => l.length - (intOf cn).toNat)
    case atStart => exact ⟨0, by omega, rfl, Drew.refl w, rfl⟩
    case round =>
      obtain ⟨k, hk, rfl, hd, hs⟩ := hrel
      by_cases hlt : k < l.length
      · have hkk : (k : Int) < l.length := by omega
        have hkm : k < m.length := HLEN.out ▸ hlt
        obtain ⟨b1, o1, rfl, hb1, hc1⟩ := (HA.out.new hd.new (Nat.le_refl _)).ints k hlt
        obtain ⟨b2, o2, rfl, hb2, hc2⟩ := (HB.out.new hd.new (Nat.le_refl _)).ints k hkm
        have hb1 : b1 < wr.heap.size := Nat.lt_of_lt_of_le hb1 hd.new.size
        have hb2 : b2 < wr.heap.size := Nat.lt_of_lt_of_le hb2 hd.new.size
        have hnext : gt l k = gt m k → l.take (k + 1) = m.take (k + 1) := take_same hs hlt hkm
        have hno : gt l k ≠ gt m k → decide (l = m) = false := fun h => decide_eq_false (take_other h)
        have HN := Lib.hid hnext
        have HNO := Lib.hid hno
        clear hnext hno hs hkm
        generalize gt l k = x at *
        generalize gt m k = y at *
        by_cases hxy : x = y
        · have HN1 := Lib.hid (HN.out hxy)
          clear HN HNO
          subst hxy
          have hxx : (x == x) = true := by simp
          go_wp2_with fail
          go_quiet (fail)
          go_wp2_with fail
          exact ⟨⟨k + 1, by omega, by go_num, hd.drewN _, HN1.out⟩, by simp [intOf]; omega⟩
        · have hxyb : (x == y) = false := by simpa using hxy
          go_wp2_with fail
          go_quiet (fail)
          go_wp2_with fail
          go_ret
          rw [HNO.out hxy]
          exact ⟨rfl, hd.drewN _⟩
      · have : k = l.length := by omega
        subst this
        have he : l = m := by
          rw [List.take_length, HLEN.out, List.take_length] at hs
          exact hs
        have HE := Lib.hid (decide_eq_true he)
        clear he hs
        go_wp2_with fail
        go_ret
        rw [HE.out]
        exact ⟨rfl, hd⟩
  · have hno : decide (l = m) = false := decide_eq_false fun e => hlen (by rw [e])
    have HNO := Lib.hid hno
    have hlen2 : ((l.length : Int) == (m.length : Int)) = false := by simp; omega
    clear hno hA hB
    go_enter Try.func37, Try.ntmps37
    go_wp2_with fail
    go_ret
    rw [HNO.out]
    exact ⟨rfl, Drew.refl w⟩

set_option maxRecDepth 100000 in
set_option maxHeartbeats 1000000 in
theorem same_any (A B : Option Addr) (c d : Nat) (l m : List Int) (w : World) (hA : Elems w w.heap.size A (l.map (Value.int .u8))) (hB : Elems w w.heap.size B (m.map (Value.int .u8))) (hl : l.length < 4611686018427387904) :
    Calls Try.prog 38 #[.slice A l.length c, .slice B m.length d] w fun e w' => e = .returned (.bool (decide (l = m))) ∧ Drew w w' := by
  by_cases hlen : l.length = m.length
  · have HA := Lib.hid hA
    have HB := Lib.hid hB
    clear hA hB
    have HLEN := Lib.hid hlen
    rw [← hlen]
    clear hlen
    go_enter Try.func38, Try.ntmps38
    go_wp2_with fail
    go_loopw [5] (fun ci wr => ∃ k : Nat, k ≤ l.length ∧ ci = .int .i64 k ∧ Drew w wr ∧ l.take k = m.take k) (fun cn _ => l.length - (intOf cn).toNat)
    case atStart => exact ⟨0, by omega, rfl, Drew.refl w, rfl⟩
    case round =>
      obtain ⟨k, hk, rfl, hd, hs⟩ := hrel
      by_cases hlt : k < l.length
      · have hkk : (k : Int) < l.length := by omega
        have hkm : k < m.length := HLEN.out ▸ hlt
        obtain ⟨b1, o1, rfl, hb1, hc1⟩ := (HA.out.new hd.new (Nat.le_refl _)).ints k hlt
        obtain ⟨b2, o2, rfl, hb2, hc2⟩ := (HB.out.new hd.new (Nat.le_refl _)).ints k hkm
        have hb1 : b1 < wr.heap.size := Nat.lt_of_lt_of_le hb1 hd.new.size
        have hb2 : b2 < wr.heap.size := Nat.lt_of_lt_of_le hb2 hd.new.size
        have hnext : gt l k = gt m k → l.take (k + 1) = m.take (k + 1) := take_same hs hlt hkm
        have hno : gt l k ≠ gt m k → decide (l = m) = false := fun h => decide_eq_false (take_other h)
        have HN := Lib.hid hnext
        have HNO := Lib.hid hno
        clear hnext hno hs hkm
        generalize gt l k = x at *
        generalize gt m k = y at *
        by_cases hxy : x = y
        · have HN1 := Lib.hid (HN.out hxy)
          clear HN HNO
          subst hxy
          have hxx : (x == x) = true := by simp
          go_wp2_with fail
          go_quiet (fail)
          go_wp2_with fail
          exact ⟨⟨k + 1, by omega, by go_num, hd.drewN _, HN1.out⟩, by simp [intOf]; omega⟩
        · have hxyb : (x == y) = false := by simpa using hxy
          go_wp2_with fail
          go_quiet (fail)
          go_wp2_with fail
          go_ret
          rw [HNO.out hxy]
          exact ⟨rfl, hd.drewN _⟩
      · have : k = l.length := by omega
        subst this
        have he : l = m := by
          rw [List.take_length, HLEN.out, List.take_length] at hs
          exact hs
        have HE := Lib.hid (decide_eq_true he)
        clear he hs
        go_wp2_with fail
        go_ret
        rw [HE.out]
        exact ⟨rfl, hd⟩
  · have hno : decide (l = m) = false := decide_eq_false fun e => hlen (by rw [e])
    have HNO := Lib.hid hno
    have hlen2 : ((l.length : Int) == (m.length : Int)) = false := by simp; omega
    clear hno hA hB
    go_enter Try.func38, Try.ntmps38
    go_wp2_with fail
    go_ret
    rw [HNO.out]
    exact ⟨rfl, Drew.refl w⟩
end Go.Proofs.Ytapfihlgemejiaa
