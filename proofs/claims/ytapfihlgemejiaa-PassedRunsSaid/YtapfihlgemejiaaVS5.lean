/- Walks over package passed: an entry is looked at: Key, Zone, Gone, Taken, Of. -/
import Derived.Test.YtapfihlgemejiaaVS4
namespace Go.Proofs.Ytapfihlgemejiaa
open Go.RowKit
def noneCells : List Value := [.slice none 0 0, .pointer none, .int .i64 (-1), .bool false]

set_option maxHeartbeats 400000 in
theorem entry_any {base : Nat} {ps : Nat} {s : Sto} (i : Nat) (w : World) (h : StoreAt base w ps s) (hi : i < s.ents.length) :
    Calls Try.prog 90 #[.pointer (some ⟨ps, 0, none⟩), .int .i64 i] w fun e w' => e = .returned (.tuple #[.agg (entCells (entAt s.ents i)).toArray, .int .i64 0]) ∧ New w w' := by
  obtain ⟨A, c, pm, ml, h⟩ := h
  obtain ⟨pe, rfl, _, c0, c1, c2, c3, _⟩ := h.ent i hi
  obtain ⟨_, h1, _, _⟩ := h.cells
  have hlp := h.row.lt
  have hle := World.block_lt_of_cell? w _ c0
  have hn : (i : Int) < s.ents.length := by omega
  clear h
  unfold entCells
  generalize entAt s.ents i = e at *
  go_enter Try.func90, Try.ntmps90
  go_wp2
  refine bodyPost_ret (v := .tuple #[.agg #[.slice (addrOf e.ka) e.key.length e.kc, .pointer (some ⟨e.zb, 0, none⟩), .int .i64 e.taken, .bool e.gone], .int .i64 0]) (by simp [results, Try.results90, go_sem]) rfl ⟨rfl, ?_⟩
  exact (New.refl w).alloc _
set_option maxHeartbeats 400000 in
theorem entry_none {base : Nat} {ps : Nat} {s : Sto} (i : Int) (w : World) (h : StoreAt base w ps s) (hi : i < 0 ∨ (s.ents.length : Int) ≤ i) :
    Calls Try.prog 90 #[.pointer (some ⟨ps, 0, none⟩), .int .i64 i] w fun e w' => e = .returned (.tuple #[.agg noneCells.toArray, .int .i64 4]) ∧ New w w' := by
  obtain ⟨A, c, pm, ml, h⟩ := h
  obtain ⟨_, h1, _, _⟩ := h.cells
  have hlp := h.row.lt
  clear h
  unfold noneCells
  by_cases h0 : i < 0
  · clear hi
    go_enter Try.func90, Try.ntmps90
    go_wp2
    refine bodyPost_ret (v := .tuple #[.agg #[.slice none 0 0, .pointer none, .int .i64 (-1), .bool false], .int .i64 4]) (by simp [results, Try.results90, go_sem]) rfl ⟨rfl, ?_⟩
    exact (New.refl w).alloc _
  · have h2 : (s.ents.length : Int) ≤ i := by omega
    have h3 : 0 ≤ i := by omega
    clear hi h0
    go_enter Try.func90, Try.ntmps90
    go_wp2
    refine bodyPost_ret (v := .tuple #[.agg #[.slice none 0 0, .pointer none, .int .i64 (-1), .bool false], .int .i64 4]) (by simp [results, Try.results90, go_sem]) rfl ⟨rfl, ?_⟩
    exact (New.refl w).alloc _
section
variable (P : Value) (i : Int) (A : Option Addr) (n c : Nat) (p : Option Addr) (t : Int) (g : Bool) (e : Int) (w : World)
set_option maxHeartbeats 400000 in
theorem zone_of (h : Calls Try.prog 90 #[P, .int .i64 i] w fun x w' => x = .returned (.tuple #[.agg #[.slice A n c, .pointer p, .int .i64 t, .bool g], .int .i64 e]) ∧ New w w') :
    Calls Try.prog 48 #[P, .int .i64 i] w fun x w' => x = .returned (.tuple #[.pointer p, .int .i64 e]) ∧ New w w' := by
  have H := Lib.hid h
  clear h
  go_enter Try.func48, Try.ntmps48
  go_wp2_with fail
  refine H.out.mono ?_
  rintro x w1 ⟨rfl, hn⟩
  go_wp2_with fail
  go_ret2
  exact ⟨rfl, hn.alloc _⟩
set_option maxHeartbeats 400000 in
theorem gone_of (h : Calls Try.prog 90 #[P, .int .i64 i] w fun x w' => x = .returned (.tuple #[.agg #[.slice A n c, .pointer p, .int .i64 t, .bool g], .int .i64 e]) ∧ New w w') :
    Calls Try.prog 30 #[P, .int .i64 i] w fun x w' => x = .returned (.bool g) ∧ New w w' := by
  have H := Lib.hid h
  clear h
  go_enter Try.func30, Try.ntmps30
  go_wp2_with fail
  refine H.out.mono ?_
  rintro x w1 ⟨rfl, hn⟩
  go_wp2_with fail
  go_ret
  exact ⟨rfl, hn.alloc _⟩
set_option maxHeartbeats 400000 in
theorem taken_of (h : Calls Try.prog 90 #[P, .int .i64 i] w fun x w' => x = .returned (.tuple #[.agg #[.slice A n c, .pointer p, .int .i64 t, .bool g], .int .i64 e]) ∧ New w w') :
    Calls Try.prog 29 #[P, .int .i64 i] w fun x w' => x = .returned (.int .i64 t) ∧ New w w' := by
  have H := Lib.hid h
  clear h
  go_enter Try.func29, Try.ntmps29
  go_wp2_with fail
  refine H.out.mono ?_
  rintro x w1 ⟨rfl, hn⟩
  go_wp2_with fail
  go_ret
  exact ⟨rfl, hn.alloc _⟩
end
set_option maxHeartbeats 400000 in
theorem key_of (P : Value) (i : Int) (A : Option Addr) (c : Nat) (key : List Int) (p : Option Addr) (t : Int) (g : Bool) (e : Int) (w : World)
    (h : Calls Try.prog 90 #[P, .int .i64 i] w fun x w' => x = .returned (.tuple #[.agg #[.slice A key.length c, .pointer p, .int .i64 t, .bool g], .int .i64 e]) ∧ New w w')
    (hk : ∀ w', New w w' → Elems w' w'.heap.size A (key.map (Value.int .u8))) (hl : key.length ≤ 140737488355328) :
    Calls Try.prog 32 #[P, .int .i64 i] w fun x w' => ∃ A' c', x = .returned (.tuple #[.slice A' key.length c', .int .i64 e]) ∧ w'.ownsRow w.heap.size 5 1 (.slice A' key.length c') key.length (key.map (Value.int .u8)) ∧ New w w' := by
  have H := Lib.hid h
  have HK := Lib.hid hk
  clear h hk
  go_enter Try.func32, Try.ntmps32
  go_wp2_with fail
  refine H.out.mono ?_
  rintro x w1 ⟨rfl, hn⟩
  go_wp2_with fail
  have hn1 := hn.alloc (.cells #[.slice A key.length c, .pointer p, .int .i64 t, .bool g] 143)
  have hcl := clone_bytes A c key _ (HK.out _ hn1) hl
  have HCL := Lib.hid hcl
  clear hcl
  refine HCL.out.mono ?_
  rintro x w2 ⟨A', c', rfl, ho, hn2⟩
  have hn3 := hn1.trans hn2
  have hsz := hn.size
  go_wp2_with fail
  go_ret2
  exact ⟨A', c', rfl, own_lower ho (by simp; omega), hn3⟩

section
variable {base ps : Nat} {s : Sto} (w : World)
theorem ent_shape (e : Ent) : (entCells e).toArray = #[.slice (addrOf e.ka) e.key.length e.kc, .pointer (some ⟨e.zb, 0, none⟩), .int .i64 e.taken, .bool e.gone] := rfl
theorem gone_at (i : Nat) (h : StoreAt base w ps s) (hi : i < s.ents.length) :
    Calls Try.prog 30 #[.pointer (some ⟨ps, 0, none⟩), .int .i64 i] w fun x w' => x = .returned (.bool (entAt s.ents i).gone) ∧ New w w' := by
  have h1 := entry_any i w h hi
  rw [ent_shape] at h1
  exact gone_of _ _ _ _ _ _ _ _ _ w h1
theorem gone_none (i : Int) (h : StoreAt base w ps s) (hi : i < 0 ∨ (s.ents.length : Int) ≤ i) :
    Calls Try.prog 30 #[.pointer (some ⟨ps, 0, none⟩), .int .i64 i] w fun x w' => x = .returned (.bool false) ∧ New w w' :=
  gone_of _ _ _ _ _ _ _ _ _ w (entry_none i w h hi)
theorem taken_at (i : Nat) (h : StoreAt base w ps s) (hi : i < s.ents.length) :
    Calls Try.prog 29 #[.pointer (some ⟨ps, 0, none⟩), .int .i64 i] w fun x w' => x = .returned (.int .i64 (entAt s.ents i).taken) ∧ New w w' := by
  have h1 := entry_any i w h hi
  rw [ent_shape] at h1
  exact taken_of _ _ _ _ _ _ _ _ _ w h1
theorem taken_none (i : Int) (h : StoreAt base w ps s) (hi : i < 0 ∨ (s.ents.length : Int) ≤ i) :
    Calls Try.prog 29 #[.pointer (some ⟨ps, 0, none⟩), .int .i64 i] w fun x w' => x = .returned (.int .i64 (-1)) ∧ New w w' :=
  taken_of _ _ _ _ _ _ _ _ _ w (entry_none i w h hi)
theorem zone_got (i : Nat) (h : StoreAt base w ps s) (hi : i < s.ents.length) :
    Calls Try.prog 48 #[.pointer (some ⟨ps, 0, none⟩), .int .i64 i] w fun x w' => x = .returned (.tuple #[.pointer (some ⟨(entAt s.ents i).zb, 0, none⟩), .int .i64 0]) ∧ New w w' := by
  have h1 := entry_any i w h hi
  rw [ent_shape] at h1
  exact zone_of _ _ _ _ _ _ _ _ _ w h1
theorem zone_none (i : Int) (h : StoreAt base w ps s) (hi : i < 0 ∨ (s.ents.length : Int) ≤ i) :
    Calls Try.prog 48 #[.pointer (some ⟨ps, 0, none⟩), .int .i64 i] w fun x w' => x = .returned (.tuple #[.pointer none, .int .i64 4]) ∧ New w w' :=
  zone_of _ _ _ _ _ _ _ _ _ w (entry_none i w h hi)
theorem key_got (i : Nat) (h : StoreAt base w ps s) (hi : i < s.ents.length) :
    Calls Try.prog 32 #[.pointer (some ⟨ps, 0, none⟩), .int .i64 i] w fun x w' => ∃ A' c', x = .returned (.tuple #[.slice A' (entAt s.ents i).key.length c', .int .i64 0]) ∧
      w'.ownsRow w.heap.size 5 1 (.slice A' (entAt s.ents i).key.length c') (entAt s.ents i).key.length ((entAt s.ents i).key.map (Value.int .u8)) ∧ New w w' := by
  have h1 := entry_any i w h hi
  rw [ent_shape] at h1
  obtain ⟨A, c, pm, ml, h⟩ := h
  have he := h.entOk i hi
  exact key_of _ _ _ _ _ _ _ _ _ w h1 (fun w' hn => (he.keeps hn.keeps).key.elems) he.len
theorem key_none (i : Int) (h : StoreAt base w ps s) (hi : i < 0 ∨ (s.ents.length : Int) ≤ i) :
    Calls Try.prog 32 #[.pointer (some ⟨ps, 0, none⟩), .int .i64 i] w fun x w' => ∃ A' c', x = .returned (.tuple #[.slice A' 0 c', .int .i64 4]) ∧ New w w' :=
  (key_of _ _ none 0 [] _ _ _ _ w (entry_none i w h hi) (fun _ _ => Elems.nil _ _ _) (by simp)).mono fun _ _ ⟨A, c, e, _, hn⟩ => ⟨A, c, e, hn⟩
end
set_option maxRecDepth 100000 in
set_option maxHeartbeats 400000 in
theorem of_any_key {base ps : Nat} {s : Sto} (w : World) (h : StoreAt base w ps s) (A0 : Option Addr) (c0 : Nat) (key : List Int) (hk : Elems w w.heap.size A0 (key.map (Value.int .u8))) (hby : Bytes key) :
    Calls Try.prog 35 #[.pointer (some ⟨ps, 0, none⟩), .slice A0 key.length c0] w fun e w' => ∃ A' c', e = .returned (.slice A' (idxs s.ents key).length c') ∧
      w'.ownsRow w.heap.size 3 1 (.slice A' (idxs s.ents key).length c') (idxs s.ents key).length (nats (idxs s.ents key)) ∧ New w w' := by
  obtain ⟨A, c, pm, ml, h⟩ := h
  obtain ⟨A', c', hlk, hl⟩ := h.list key hby
  obtain ⟨_, h1, h2, _⟩ := h.cells
  have hcv : ∀ k, (convert 30 9 (.slice A0 key.length c0)).run Try.prog (w.drewN k) = .ok (.string (strOfNums key)) (w.drewN k) := fun k =>
    run_key (hk.keep (w' := w.drewN k) fun b _ => rfl) c0
  have hlen := idxs_length_le s.ents key
  have hfew := h.ok.few
  have hcl := clone_ints A' c' (nats (idxs s.ents key)) w.drew (hl.keeps (New.keeps (New.refl w).drew) (by decide) (by decide)).elems (nats_cells _) (by rw [nats_length]; omega)
  rw [nats_length] at hcl
  have HCL := Lib.hid hcl
  have hcv0 := hcv 1
  have hlk0 := hlk 1
  have e1 : w.drewN 1 = w.drew := rfl
  rw [e1] at hcv0 hlk0
  clear h hk hl hcl hcv hlk e1
  go_enter Try.func35, Try.ntmps35
  go_wp2_with fail
  refine wp_region_still_tail 7 (by kernel_rfl) (by kernel_rfl) ?_
  simp only [List.take_succ_cons, List.take_zero, List.drop_succ_cons, List.drop_zero]
  refine still_of_quiet _ _ ?_
  repeat (first | go_big_quiet_skip | (go_big_quiet_want; go_big_quiet_op; go_big_quiet_on))
  refine wpQuiet_nil ?_
  go_wp2_with fail
  refine HCL.out.mono ?_
  rintro x w' hx
  obtain ⟨A2, c2, rfl, ho, hn⟩ := hx
  go_simp
  go_wp2
  go_ret
  exact ⟨A2, c2, rfl, own_lower ho (Nat.le_refl w.heap.size), (New.refl w).drew.trans hn⟩
end Go.Proofs.Ytapfihlgemejiaa
