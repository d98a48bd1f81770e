/- reduce.Few: what has been put so far, plain and in memory. -/
import Derived.Test.YtapfihlgemejiaaR12
namespace Go.Proofs.Ytapfihlgemejiaa
open Go.RowKit

def limOf (Z : List Int) (p : Nat × Nat) : Lim := ⟨p.1, p.2, cellN Z p.1 p.2⟩
/-- Of a class's round the first t. -/
def rpTo (Z : List Int) (l : List Nat) (t : Nat) : List (Nat × Nat) :=
  (List.range t).filterMap fun k => if 1 < l.length ∧ (l.getD k 0 ≠ 0 ∨ cellN Z 0 (l.getD ((k + 1) % l.length) 0) ≠ 1) then some (l.getD k 0, l.getD ((k + 1) % l.length) 0) else none
theorem rpTo_all (Z : List Int) (l : List Nat) : rpTo Z l l.length = roundPuts Z l := rfl
theorem rpTo_yes {Z : List Int} {l : List Nat} {t : Nat} (h : 1 < l.length ∧ (l.getD t 0 ≠ 0 ∨ cellN Z 0 (l.getD ((t + 1) % l.length) 0) ≠ 1)) : rpTo Z l (t + 1) = rpTo Z l t ++ [(l.getD t 0, l.getD ((t + 1) % l.length) 0)] := by
  unfold rpTo
  rw [List.range_succ, List.filterMap_append]
  congr 1
  simp only [List.filterMap_cons, List.filterMap_nil, if_pos h]
theorem rpTo_no {Z : List Int} {l : List Nat} {t : Nat} (h : ¬ (1 < l.length ∧ (l.getD t 0 ≠ 0 ∨ cellN Z 0 (l.getD ((t + 1) % l.length) 0) ≠ 1))) : rpTo Z l (t + 1) = rpTo Z l t := by
  unfold rpTo
  rw [List.range_succ, List.filterMap_append]
  simp only [List.filterMap_cons, List.filterMap_nil, if_neg h, List.append_nil]
theorem rpTo_length (Z : List Int) (l : List Nat) (t : Nat) : (rpTo Z l t).length ≤ t := by
  unfold rpTo
  exact Nat.le_trans (List.length_filterMap_le _ _) (by simp)
/-- Of the classes the first k. -/
def putsTo (Z : List Int) (cls : List (List Nat)) (k : Nat) : List (Nat × Nat) := (cls.take k).flatMap fun c => roundPuts Z (roundL Z c)
theorem putsTo_succ (Z : List Int) (cls : List (List Nat)) (k : Nat) (h : k < cls.length) : putsTo Z cls (k + 1) = putsTo Z cls k ++ roundPuts Z (roundL Z (cls.getD k [])) := by
  unfold putsTo
  rw [List.take_succ_eq_append_getElem h, List.flatMap_append, List.getD_eq_getElem?_getD, List.getElem?_eq_getElem h]
  simp
theorem putsTo_length (Z : List Int) (cls : List (List Nat)) (hc : ∀ k, k < cls.length → (cls.getD k []).length ≤ 9) : ∀ k, k ≤ cls.length → (putsTo Z cls k).length ≤ 9 * k
  | 0, _ => by simp [putsTo]
  | k + 1, h => by
    rw [putsTo_succ Z cls k (by omega), List.length_append]
    have h1 := putsTo_length Z cls hc k (by omega)
    have h2 := rpTo_length Z (roundL Z (cls.getD k [])) (roundL Z (cls.getD k [])).length
    rw [rpTo_all, roundL_length] at h2
    have h3 := hc k (by omega)
    omega
def pairRow (Z : List Int) (cls : List (List Nat)) (i t : Nat) : List (Nat × Nat) := ((cls.take t).filter fun d => decide (i ≠ hd d) && neededB Z i d cls).map fun d => (i, hd d)
theorem pairRow_succ (Z : List Int) (cls : List (List Nat)) (i t : Nat) (h : t < cls.length) :
    pairRow Z cls i (t + 1) = pairRow Z cls i t ++ if (decide (i ≠ hd (cls.getD t [])) && neededB Z i (cls.getD t []) cls) = true then [(i, hd (cls.getD t []))] else [] := by
  unfold pairRow
  rw [List.take_succ_eq_append_getElem h, List.filter_append, List.map_append, List.getD_eq_getElem?_getD, List.getElem?_eq_getElem h, Option.getD_some]
  congr 1
  simp only [List.filter_cons, List.filter_nil]
  split <;> simp
theorem pairRow_length (Z : List Int) (cls : List (List Nat)) (i t : Nat) : (pairRow Z cls i t).length ≤ t := by
  unfold pairRow
  rw [List.length_map]
  exact Nat.le_trans (List.length_filter_le _ _) (by rw [List.length_take]; omega)
def pairsTo (Z : List Int) (cls : List (List Nat)) (k : Nat) : List (Nat × Nat) := (cls.take k).flatMap fun c => pairRow Z cls (hd c) cls.length
theorem pairsTo_succ (Z : List Int) (cls : List (List Nat)) (k : Nat) (h : k < cls.length) : pairsTo Z cls (k + 1) = pairsTo Z cls k ++ pairRow Z cls (hd (cls.getD k [])) cls.length := by
  unfold pairsTo
  rw [List.take_succ_eq_append_getElem h, List.flatMap_append, List.getD_eq_getElem?_getD, List.getElem?_eq_getElem h]
  simp
theorem pairsTo_length (Z : List Int) (cls : List (List Nat)) (hc : cls.length ≤ 9) : ∀ k, k ≤ cls.length → (pairsTo Z cls k).length ≤ 9 * k
  | 0, _ => by simp [pairsTo]
  | k + 1, h => by
    rw [pairsTo_succ Z cls k (by omega), List.length_append]
    have h1 := pairsTo_length Z cls hc k (by omega)
    have h2 := pairRow_length Z cls (hd (cls.getD k [])) cls.length
    omega
theorem fewL_eq (Z : List Int) (n : Nat) : fewL Z n = putsTo Z (classesL Z n) (classesL Z n).length ++ pairsTo Z (classesL Z n) (classesL Z n).length := by
  unfold fewL putsTo pairsTo pairRow
  simp only [List.take_length]
theorem classesL_ok (Z : List Int) (n : Nat) (hn : n ≤ 8) : ClsOk n (classesL Z n) := by
  refine ⟨?_, fun k hk => ?_⟩
  · unfold classesL
    refine Nat.le_trans (List.length_filter_le _ _) ?_
    simp; omega
  · have hm : (classesL Z n).getD k [] ∈ classesL Z n := by
      rw [List.getD_eq_getElem?_getD, List.getElem?_eq_getElem hk]; exact List.getElem_mem hk
    generalize (classesL Z n).getD k [] = c at hm
    unfold classesL at hm
    rw [List.mem_filter, List.mem_map] at hm
    obtain ⟨⟨y, _, rfl⟩, h2⟩ := hm
    refine ⟨?_, ?_, fun i => ?_⟩
    · apply List.length_pos_iff.2
      intro e
      rw [e] at h2
      cases h2
    · exact Nat.le_trans (memTo_length Z _ _) (by omega)
    · by_cases hi : i < (memTo Z (n + 1) y).length
      · have h3 : (memTo Z (n + 1) y).getD i 0 ∈ memTo Z (n + 1) y := by
          rw [List.getD_eq_getElem?_getD, List.getElem?_eq_getElem hi]; exact List.getElem_mem hi
        unfold memTo at h3
        rw [List.mem_filter] at h3
        have h4 := List.mem_range.1 h3.1
        unfold memTo
        omega
      · rw [List.getD_eq_getElem?_getD, List.getElem?_eq_none (by omega)]; exact Nat.zero_le _
theorem classesL_pos (Z : List Int) (n : Nat) : 0 < (classesL Z n).length := by
  apply List.length_pos_iff.2
  intro e
  have h0 : memTo Z (n + 1) 0 ∈ classesL Z n := by
    unfold classesL
    rw [List.mem_filter, List.mem_map]
    refine ⟨⟨0, by simp, rfl⟩, ?_⟩
    have : (0 : Nat) ∈ memTo Z (n + 1) 0 := by
      unfold memTo
      rw [List.mem_filter]
      exact ⟨by simp, by rw [headOf_eq]; rfl⟩
    cases hm : memTo Z (n + 1) 0 with
    | nil => rw [hm] at this; cases this
    | cons x l => rfl
  rw [e] at h0
  cases h0

/-- Blocks of these element types are as they were. -/
def KeptT (S : TypeId → Prop) (w w' : World) : Prop := ∀ (g : Nat) (cur : Array Value) (t : TypeId), S t → w.heap[g]? = some (Obj.cells cur t (0, 0)) → w'.heap[g]? = w.heap[g]?
theorem KeptT.own {S : TypeId → Prop} {w w' : World} (hk : KeptT S w w') {base e size n : Nat} {v : Value} {xs : List Value} (h : w.ownsRow base e size v n xs) (he : S e) : w'.ownsRow base e size v n xs :=
  own_keep h fun g hg => by
    obtain ⟨_, cur, h2⟩ := own_row h hg
    exact hk g cur e he h2
theorem KeptT.row {S : TypeId → Prop} {w w' : World} (hk : KeptT S w w') {g : Nat} {t : TypeId} {cs : List Value} (h : Row w g t cs) (ht : S t) : Row w' g t cs := (hk g _ t ht h).trans h
theorem KeptT.lol {S : TypeId → Prop} {w w' : World} (hk : KeptT S w w') {base : Nat} {v : Value} {ls : List (List Nat)} (h : LolAt base w v ls) (h25 : S 25) (h3 : S 3) : LolAt base w' v ls := by
  obtain ⟨bs, h1, h2, h4, h5⟩ := h
  exact ⟨bs, h1, hk.own h2 h25, fun i u hu => hk.own (h4 i u hu) h3, h5⟩
theorem New.kept {S : TypeId → Prop} {w w' : World} (h : New w w') : KeptT S w w' := fun g _ _ _ hg => h.block g (Array.getElem?_eq_some_iff.1 hg).1 (fun e => e)
/-- What 'put' leaves alone. -/
theorem PutPost.kept {base go : Nat} {v : Value} {l : List Lim} {x : Lim} {w w' : World} {e : Ending} (h : PutPost base go v l x w e w') (hgo : Row w go 113 [v]) (ho : w.ownsRow base 100 3 v l.length (limRow l)) :
    KeptT (fun t => t ≠ 113 ∧ t ≠ 100) w w' := fun g cur t ht hg => by
  obtain ⟨_, v', _, _, hf, _⟩ := h
  refine hf.block g (Array.getElem?_eq_some_iff.1 hg).1 (fun e => ?_)
  rcases e with e | e
  · subst e
    have := hg.symm.trans hgo
    simp only [Option.some.injEq, Obj.cells.injEq] at this
    exact ht.1 this.2.1
  · obtain ⟨_, cur2, h2⟩ := own_row ho e
    have := hg.symm.trans h2
    simp only [Option.some.injEq, Obj.cells.injEq] at this
    exact ht.2 this.2.1

/-- Few on its way: what it has put so far. -/
structure FewSt (w wr : World) (b gr go : Nat) (z : Zn) (vC : Value) (lo : List (Nat × Nat)) : Prop where
  zone : ZoneAt w b z
  new : New w wr
  rr : Row wr gr 196 [.pointer (some ⟨b, 0, none⟩)]
  cls : LolAt w.heap.size wr vC (classesL z.Z z.n)
  out : ∃ v, Row wr go 113 [v] ∧ wr.ownsRow w.heap.size 100 3 v lo.length (limRow (lo.map (limOf z.Z)))
  hgo : w.heap.size ≤ go
theorem FewSt.step {w wr w' : World} {b gr go : Nat} {z : Zn} {vC : Value} {lo : List (Nat × Nat)} (h : FewSt w wr b gr go z vC lo) (hn : New wr w') : FewSt w w' b gr go z vC lo := by
  obtain ⟨v, h1, h2⟩ := h.out
  exact ⟨h.zone, h.new.trans hn, hn.row h.rr, h.cls.new hn, ⟨v, hn.row h1, own_new h2 hn⟩, h.hgo⟩
theorem FewSt.zoneR {w wr : World} {b gr go : Nat} {z : Zn} {vC : Value} {lo : List (Nat × Nat)} (h : FewSt w wr b gr go z vC lo) : ZoneAt wr b z := h.zone.new h.new
/-- One bound more. -/
theorem FewSt.put {w wr : World} {b gr go : Nat} {z : Zn} {vC : Value} {lo : List (Nat × Nat)} (h : FewSt w wr b gr go z vC lo) (hl : lo.length ≤ 200) (i j : Nat) (hi : i ≤ z.n) (hj : j ≤ z.n) :
    Calls Try.prog 139 #[.int .i64 i, .int .i64 j, .pointer (some ⟨go, 0, none⟩), .pointer (some ⟨gr, 0, none⟩)] wr fun e w' => e = .returned (.tuple #[]) ∧ FewSt w w' b gr go z vC (lo ++ [(i, j)]) ∧ KeptT (fun t => t ≠ 113 ∧ t ≠ 100) wr w' := by
  obtain ⟨v, h1, h2⟩ := h.out
  have h3 : (lo.map (limOf z.Z)).length = lo.length := by simp
  have h2' := h2
  rw [← h3] at h2'
  refine (put_any b gr go w.heap.size i j z v (lo.map (limOf z.Z)) wr h.zoneR h.rr h1 h2' (by omega) hi hj h.new.size).mono (fun e w' hp => ?_)
  have hk := hp.kept h1 h2'
  obtain ⟨he, v', hr', ho', hf, _⟩ := hp
  refine ⟨he, ⟨h.zone, ?_, hk.row h.rr (by decide), hk.lol h.cls (by decide) (by decide), ⟨v', hr', ?_⟩, h.hgo⟩, hk⟩
  · refine Fr.then h.new hf (fun _ _ e => e) (fun k hk e => ?_)
    rcases e with e | e
    · have := h.hgo; omega
    · have := (own_row h2 e).1; omega
  · rw [List.map_append, List.length_append]
    rw [h3] at ho'
    exact ho'
end Go.Proofs.Ytapfihlgemejiaa
