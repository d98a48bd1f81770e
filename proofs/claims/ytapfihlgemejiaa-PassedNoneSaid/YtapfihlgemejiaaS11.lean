/- Walks over package passed, of a nil store; and gnomonlaw16.PassedNone. -/
import Derived.Test.YtapfihlgemejiaaS9
namespace Go.Proofs.Ytapfihlgemejiaa
open Go.RowKit

theorem waiting_nil (w : World) : Calls Try.prog 28 #[.pointer none] w fun e w' => e = .returned (.slice none 0 0) ∧ w = w' := by
  go_enter Try.func28, Try.ntmps28
  go_wp2
  go_ret
  exact ⟨rfl, rfl⟩
theorem take_nil (w : World) : Calls Try.prog 31 #[.pointer none] w fun e w' => e = .returned (.tuple #[.int .i64 0, .bool false]) ∧ w = w' := by
  have HW := Lib.hid (waiting_nil w)
  go_enter Try.func31, Try.ntmps31
  go_wp2_with (go_at_call 28; go_must (refine HW.out.mono ?_; rintro e w2 ⟨rfl, rfl⟩))
  go_ret2
  exact ⟨rfl, rfl⟩
theorem of_nil (k : Value) (w : World) : Calls Try.prog 35 #[.pointer none, k] w fun e w' => e = .returned (.slice none 0 0) ∧ w = w' := by
  go_enter Try.func35, Try.ntmps35
  go_wp2
  go_ret
  exact ⟨rfl, rfl⟩
theorem covers_nil (k : Value) (z : Option Addr) (w : World) : Calls Try.prog 27 #[.pointer none, k, .pointer z] w fun e w' => e = .returned (.int .i64 (-1)) ∧ w = w' := by
  go_enter Try.func27, Try.ntmps27
  go_wp2
  go_ret
  exact ⟨rfl, rfl⟩
theorem fork_nil (w : World) : Calls Try.prog 59 #[.pointer none] w fun e w' => e = .returned (.pointer none) ∧ w = w' := by
  go_enter Try.func59, Try.ntmps59
  go_wp2
  go_ret
  exact ⟨rfl, rfl⟩
theorem up1 : upOk 1 = true := by kernel_rfl

set_option maxRecDepth 100000 in
set_option maxHeartbeats 1000000 in
/-- Where nothing stands under the key the zone is not looked at. -/
theorem covers_empty {base : Nat} {ps : Nat} {s : Sto} (w : World) (h : StoreAt base w ps s) (A0 : Option Addr) (c0 : Nat) (key : List Int) (hk : Elems w w.heap.size A0 (key.map (Value.int .u8))) (hby : Bytes key)
    (z : Option Addr) (he : idxs s.ents key = []) :
    Calls Try.prog 27 #[.pointer (some ⟨ps, 0, none⟩), .slice A0 key.length c0, .pointer z] w fun e w' => e = .returned (.int .i64 (-1)) ∧ Drew w w' := by
  obtain ⟨A, c, pm, ml, h⟩ := h
  obtain ⟨A', c', hlk, hl⟩ := h.list key hby
  obtain ⟨_, h1, h2, _⟩ := h.cells
  have hcv : ∀ k, (convert 30 9 (.slice A0 key.length c0)).run Try.prog (w.drewN k) = .ok (.string (strOfNums key)) (w.drewN k) := fun k =>
    run_key (hk.keep (w' := w.drewN k) fun b _ => rfl) c0
  rw [he] at hlk
  have hlen : ([] : List Nat).length = 0 := rfl
  rw [hlen] at hlk
  clear h hl hk he
  go_enter Try.func27, Try.ntmps27
  go_wp2_with fail
  go_quiet (fail)
  go_wp2_with fail
  have hd0 : Drew w (w.drewN nq) := ⟨nq, rfl⟩
  clear hlk hcv h1 h2
  generalize w.drewN nq = w1 at *
  go_loopw [19] (fun cn wr => cn = .int .i64 0 ∧ Drew w wr) (fun cn _ => 0)
  case atStart => exact ⟨rfl, hd0⟩
  case round =>
    obtain ⟨rfl, hd⟩ := hrel
    go_wp2
    go_ret
    exact ⟨rfl, hd⟩

set_option maxRecDepth 100000 in
set_option maxHeartbeats 4000000 in
theorem passedNone_any (A0 : Option Addr) (c0 : Nat) (key : List Int) (i : Int) (w : World) (hk : Elems w w.heap.size A0 (key.map (Value.int .u8))) (hby : Bytes key) :
    Calls Try.prog 10 #[.slice A0 key.length c0, .int .i64 i] w fun e w' => e = .returned (.bool true) ∧ Below w.heap.size w w' := by
  have HK := Lib.hid hk
  clear hk
  go_enter Try.func10, Try.ntmps10
  go_wp2_with fail
  refine (upTo_any 1 up1 (by decide) (by decide) w).mono ?_
  rintro e w1 ⟨z1, rfl, _, hz, hn⟩
  have hB := hn.below (Nat.le_refl _)
  clear hz hn
  go_wp2_with fail
  refine (put_nil_store _ _ w1).mono ?_
  rintro e w2 ⟨rfl, rfl⟩
  go_wp2_with fail
  refine (new_any true w.heap.size w1 hB.size).mono ?_
  rintro e w2 ⟨rfl, _, hn⟩
  have hB2 := hB.trans (hn.below hB.size)
  clear hn hB
  go_wp2_with fail
  refine (put_nil_zone _ _ w2).mono ?_
  rintro e w3 ⟨rfl, rfl⟩
  go_wp2_with fail
  refine (take_nil w2).mono ?_
  rintro e w3 ⟨rfl, rfl⟩
  go_wp2_with fail
  refine (key_nil w2 i).mono ?_
  rintro e w3 ⟨A3, c3, rfl, hn⟩
  have hB := hB2.trans (hn.below hB2.size)
  clear hn hB2
  go_wp2_with fail
  refine (zone_nil w3 i).mono ?_
  rintro e w4 ⟨rfl, hn⟩
  have hB2 := hB.trans (hn.below hB.size)
  clear hn hB
  go_wp2_with fail
  refine (live16_any w4).mono ?_
  rintro e w5 ⟨rfl, hn⟩
  have hB := hB2.trans (hn.below hB2.size)
  clear hn hB2
  go_wp2_with fail
  refine (len_nil w5).mono ?_
  rintro e w6 ⟨rfl, rfl⟩
  go_wp2_with fail
  refine (gone_nil w5 i).mono ?_
  rintro e w6 ⟨rfl, hn⟩
  have hB2 := hB.trans (hn.below hB.size)
  clear hn hB
  go_wp2_with fail
  refine (taken_nil w6 i).mono ?_
  rintro e w7 ⟨rfl, hn⟩
  have hB := hB2.trans (hn.below hB2.size)
  clear hn hB2
  go_wp2_with fail
  refine (waiting_nil w7).mono ?_
  rintro e w8 ⟨rfl, rfl⟩
  go_wp2_with fail
  refine (of_nil _ w7).mono ?_
  rintro e w8 ⟨rfl, rfl⟩
  go_wp2_with fail
  refine (covers_nil _ _ w7).mono ?_
  rintro e w8 ⟨rfl, rfl⟩
  go_wp2_with fail
  refine (fork_nil w7).mono ?_
  rintro e w8 ⟨rfl, rfl⟩
  go_wp2_with fail
  refine (new_any false w.heap.size w7 hB.size).mono ?_
  rintro e w8 ⟨rfl, hst, hn⟩
  have hB2 := hB.trans (hn.below hB.size)
  have hk8 := (HK.out.below hB2).mono hB2.size
  have hcov := covers_empty w8 hst A0 c0 key hk8 hby none rfl
  have HC := Lib.hid hcov
  clear hn hB hcov hst hk8
  go_wp2_with fail
  refine HC.out.mono ?_
  rintro e w9 ⟨rfl, hd⟩
  have hB := hB2.trans (hd.new.below hB2.size)
  go_wp2_with fail
  go_ret
  exact ⟨rfl, hB⟩
end Go.Proofs.Ytapfihlgemejiaa
