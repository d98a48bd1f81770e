/- Append onto a row of the call's own, from a slice that is nil, empty or not; maps with strings as keys. -/
import Derived.Test.YtapfihlgemejiaaM2
import Derived.Laws.AppendOwnNone
namespace Go.Proofs.Ytapfihlgemejiaa
open Go.RowKit

section
variable {P : Program} (w : World)
theorem run_append_nothing (base t ty e : Nat) (i : TypeInfo) (size : Nat) (ht : P.underlying t = some (.slice e)) (hi : P.info? e = some i)
    (v : Value) (n : Nat) (xs : List Value) (hown : w.ownsRow base e size v n xs) (c : Nat) : (Builtin.append_ #[t, t] ty #[v, .slice none 0 c]).run P w = .ok v w := by
  rcases hown.2 with ⟨rfl, rfl⟩ | ⟨g, cap, cur, rfl, _, _, hnc, _⟩
  · simp [Builtin.append_, run_underlying ht, sizeOf, typeInfo, hi, Builtin.lenOf, Builtin.firstCells]
  · simp [Builtin.append_, run_underlying ht, sizeOf, typeInfo, hi, Builtin.lenOf, Builtin.firstCells, hnc, storeCells]

theorem run_append_elems (base t ty e : Nat) (i : TypeInfo) (z : Value) (size bytes : Nat) (ht : P.underlying t = some (.slice e)) (hi : P.info? e = some i) (hz : i.zero = some z)
    (hsize : i.size = size) (hby : i.bytes = bytes) (hzs : z.cells.size = size) (hsz : 0 < size)
    (v : Value) (n : Nat) (xs : List Value) (hown : w.ownsRow base e size v n xs)
    (B : Nat) (A : Option Addr) (m c : Nat) (news : List Value) (hr : Elems w B A news) (hl : news.length = m * size) (h1 : ∀ u ∈ news, u.oneCell' = true)
    (h63 : n + m ≤ maxLen) (hbytes : (n + m) * bytes ≤ 140737488355328) (hbase : base ≤ w.heap.size) :
    ∃ v' w', (Builtin.append_ #[t, t] ty #[v, .slice A m c]).run P w = .ok v' w' ∧ w'.ownsRow base e size v' (n + m) (xs ++ news) ∧ w.grownBy w' v.ownBlock ∧
      (v'.ownBlock = v.ownBlock ∨ v'.ownBlock = some w.heap.size) := by
  cases A with
  | none =>
    have hm : m = 0 := by
      rcases Nat.eq_zero_or_pos m with h0 | h0
      · exact h0
      · obtain ⟨b, off, h, _⟩ := hr (by rw [hl]; exact Nat.mul_pos h0 hsz)
        cases h
    subst hm
    have hn : news = [] := List.eq_nil_of_length_eq_zero (by simpa using hl)
    subst hn
    exact ⟨v, w, run_append_nothing w base t ty e i size ht hi v n xs hown c, by simpa using hown, World.grownBy.refl w _, .inl rfl⟩
  | some ad =>
    have hcells : ∀ j u, news[j]? = some u → w.cell? (ad.add j) = some u := by
      intro j u hu
      have hj := (List.getElem?_eq_some_iff.1 hu).1
      obtain ⟨b, off, h, _, hc⟩ := hr (by omega)
      obtain rfl := Option.some.inj h
      have := hc j u hu
      rw [Addr.add_lit]
      exact this
    obtain ⟨v', w', hrun, ho, hg, hiff⟩ := run_append_own (P := P) w base t ty e i z size bytes ht hi hz hsize hby hzs hsz v n xs hown ad m c news hl hcells h1 h63 hbytes hbase
    refine ⟨v', w', hrun, ho, hg, ?_⟩
    subst hsize
    subst hby
    have hsmall : n + m ≤ 9223372036854775807 := by simp only [maxLen] at h63; omega
    rcases hown.2 with ⟨rfl, rfl⟩ | ⟨g, cap, cur, rfl, hbg, hgr, hnc, hcm, hcs, htake⟩
    · by_cases hm : m = 0
      · exact .inl (by rw [hiff.2 ⟨rfl, hm⟩])
      · have hr2 := run_append_nil (P := P) w t ty e i z ht hi hz ad m c news hl hcells (by omega) (by omega) (by have hb := hbytes; simp only [Nat.zero_add] at hb; omega)
        rw [hrun] at hr2
        injection hr2 with hv _
        exact .inr (by rw [hv]; rfl)
    · by_cases hroom : n + m ≤ cap
      · have hfit : n * i.size + news.length ≤ cur.size := by rw [hl, hcs, ← Nat.add_mul]; exact Nat.mul_le_mul_right _ hroom
        have hr2 := run_append_room (P := P) w t ty e i ht hi g n cap cur hgr ad m c news hl hcells h1 hroom hfit
        rw [hrun] at hr2
        injection hr2 with hv _
        exact .inl (by rw [hv]; rfl)
      · have holds : ∀ j u, xs[j]? = some u → w.cell? ((⟨g, 0, none⟩ : Addr).add j) = some u := hown.cells (g := g) rfl
        have hr2 := run_append_grow (P := P) w t ty e i z ht hi hz ⟨g, 0, none⟩ n cap xs hown.1 holds ad m c news hl hcells (by omega) (by omega) (growslice_fits (by omega) hbytes)
        rw [hrun] at hr2
        injection hr2 with hv _
        exact .inr (by rw [hv]; rfl)
end

/-- The law for the walk. -/
theorem wpList_append_elems {P : Program} {w : World} {ops : Array Oper} {rest : List Oper} {o : Oper} {a : Act} {Q : Exit → Act → World → Prop} (hgd : o.guard = none) (s x : Operand) (t : TypeId)
    (ho : o.op = .call { callee := .builtin .append, args := #[s, x], argTypes := #[t, t] })
    (base e : Nat) (i : TypeInfo) (z : Value) (size bytes : Nat) (ht : P.underlying t = some (.slice e)) (hi : P.info? e = some i) (hz : i.zero = some z)
    (hsize : i.size = size) (hby : i.bytes = bytes) (hzs : z.cells.size = size) (hsz : 0 < size)
    (v : Value) (n : Nat) (xs : List Value) (hs : a.eval s = v) (hown : w.ownsRow base e size v n xs)
    (B : Nat) (A : Option Addr) (m c : Nat) (news : List Value) (hx : a.eval x = .slice A m c) (hr : Elems w B A news) (hl : news.length = m * size) (h1 : ∀ u ∈ news, u.oneCell' = true)
    (h63 : n + m ≤ maxLen) (hbytes : (n + m) * bytes ≤ 140737488355328) (hbase : base ≤ w.heap.size)
    (h : ∀ v' w', w'.ownsRow base e size v' (n + m) (xs ++ news) → w.grownBy w' v.ownBlock → (v'.ownBlock = v.ownBlock ∨ v'.ownBlock = some w.heap.size) → wpList P ops Q rest (a.put o.dst v') w') :
    wpList P ops Q (o :: rest) a w :=
  wpList_plain hgd fun K hK => by
    obtain ⟨v', w', hrun, h2, h3, h4⟩ := run_append_elems (P := P) w base t o.type e i z size bytes ht hi hz hsize hby hzs hsz v n xs hown B A m c news hr hl h1 h63 hbytes hbase
    unfold Oper.wp execOp
    simp only [ho, resolve, invoke, builtin, Sem.run_bind, Sem.run_pure, Result.andThen_ok, List.map_toArray, List.map_cons, List.map_nil, hs, hx, hrun]
    exact hK _ _ (h v' w' h2 h3 h4)

/-- The law for a region that draws its order. -/
theorem step_append_elems {P : Program} {w : World} {ops : Array Oper} {o : Oper} {a : Act} {K : Act → World → Prop} {Q : Exit → Act → World → Prop} {E : Prop} (hgd : o.guard = none) (s x : Operand) (t : TypeId)
    (ho : o.op = .call { callee := .builtin .append, args := #[s, x], argTypes := #[t, t] })
    (base e : Nat) (i : TypeInfo) (z : Value) (size bytes : Nat) (ht : P.underlying t = some (.slice e)) (hi : P.info? e = some i) (hz : i.zero = some z)
    (hsize : i.size = size) (hby : i.bytes = bytes) (hzs : z.cells.size = size) (hsz : 0 < size)
    (v : Value) (n : Nat) (xs : List Value) (hs : a.eval s = v) (hown : w.ownsRow base e size v n xs)
    (B : Nat) (A : Option Addr) (m c : Nat) (news : List Value) (hx : a.eval x = .slice A m c) (hr : Elems w B A news) (hl : news.length = m * size) (h1 : ∀ u ∈ news, u.oneCell' = true)
    (h63 : n + m ≤ maxLen) (hbytes : (n + m) * bytes ≤ 140737488355328) (hbase : base ≤ w.heap.size)
    (h : ∀ A' c' w', w'.ownsRow base e size (.slice A' (n + m) c') (n + m) (xs ++ news) → w.grownBy w' v.ownBlock → ((Value.slice A' (n + m) c').ownBlock = v.ownBlock ∨ (Value.slice A' (n + m) c').ownBlock = some w.heap.size) → K (a.put o.dst (.slice A' (n + m) c')) w') :
    if Region.wanted o (yielded ops a.tmps) = true then Oper.wp P o a w K Q else E := by
  have hw : Region.wanted o (yielded ops a.tmps) = true := by simp [Region.wanted, hgd]
  rw [if_pos hw]
  obtain ⟨v', w', hrun, h2, h3, h4⟩ := run_append_elems (P := P) w base t o.type e i z size bytes ht hi hz hsize hby hzs hsz v n xs hown B A m c news hr hl h1 h63 hbytes hbase
  obtain ⟨A', c', rfl⟩ : ∃ A c, v' = .slice A (n + m) c := by
    rcases h2.2 with ⟨e1, e2⟩ | ⟨g, cap, cur, rfl, _⟩
    · exact ⟨none, 0, by rw [e1, e2]⟩
    · exact ⟨_, _, rfl⟩
  unfold Oper.wp execOp
  simp only [ho, resolve, invoke, builtin, Sem.run_bind, Sem.run_pure, Result.andThen_ok, List.map_toArray, List.map_cons, List.map_nil, hs, hx, hrun]
  exact h A' c' w' h2 h3 h4

/-- An own row's cells, as a slice that is read. -/
theorem elems_of_own {w : World} {base e size n : Nat} {A : Option Addr} {c : Nat} {xs : List Value} (h : w.ownsRow base e size (.slice A n c) n xs) : Elems w w.heap.size A xs := fun hl => by
  rcases h.2 with ⟨_, rfl⟩ | ⟨g, cap, cur, hv, _, hg, _⟩
  · have := h.1; simp at this; subst this; simp at hl
  · injection hv with hA _ _
    subst hA
    refine ⟨g, 0, rfl, (Array.getElem?_eq_some_iff.1 hg).1, fun j u hu => ?_⟩
    have := h.cells (g := g) rfl j u hu
    rw [Addr.add_lit] at this
    exact this

theorem own_form {w : World} {base e size n : Nat} {v : Value} {xs : List Value} (h : w.ownsRow base e size v n xs) : ∃ A c, v = .slice A n c := by
  rcases h.2 with ⟨rfl, rfl⟩ | ⟨g, cap, cur, rfl, _⟩
  · exact ⟨none, 0, rfl⟩
  · exact ⟨some ⟨g, 0, none⟩, cap, rfl⟩

theorem new_of_grown {a b : World} {row : Option Nat} (h : a.grownBy b row) (hr : ∀ k, row = some k → a.heap.size ≤ k) : New a b :=
  Fr.of_grown h fun k hk hlt => by have := hr k hk; omega

/-! ### maps with strings as keys -/

/-- Block b is a map that holds these pairs, in the order in which their keys came. -/
def MapAt (w : World) (b : Nat) (l : List (ByteArray × Value)) : Prop :=
  ∃ es clock, w.heap[b]? = some (.map es clock) ∧ es.toList.map (fun e => (e.key, e.val)) = l.map (fun p => (Value.string p.1, p.2)) ∧ (∀ x ∈ es.toList, x.born < clock) ∧ (es.toList.map (·.born)).Nodup ∧ (l.map (·.1)).Nodup

def mapFind (l : List (ByteArray × Value)) (k : ByteArray) : Option Value := (l.find? fun p => k == p.1).map (·.2)
def mapPut (l : List (ByteArray × Value)) (k : ByteArray) (v : Value) : List (ByteArray × Value) :=
  match l.findIdx? (fun p => k == p.1) with
  | some i => l.modify i fun p => (p.1, v)
  | none => l ++ [(k, v)]

theorem MapAt.made (w : World) : MapAt (w.alloc (.map #[] 0)) w.heap.size [] := ⟨#[], 0, heap_alloc_new w _, rfl, (fun x hx => by cases hx), List.nodup_nil, List.nodup_nil⟩
theorem MapAt.fr {S : Nat → Prop} {w w' : World} {b : Nat} {l : List (ByteArray × Value)} (h : MapAt w b l) (hf : Fr S w w') (hs : ¬ S b) : MapAt w' b l := by
  obtain ⟨es, clock, hb, he⟩ := h
  exact ⟨es, clock, (hf.block b (Array.getElem?_eq_some_iff.1 hb).1 hs).trans hb, he⟩
theorem MapAt.lt {w : World} {b : Nat} {l : List (ByteArray × Value)} (h : MapAt w b l) : b < w.heap.size := by
  obtain ⟨es, clock, hb, he⟩ := h
  exact (Array.getElem?_eq_some_iff.1 hb).1

theorem findNow_string (k : ByteArray) : ∀ (es : List MapEntry) (l : List (ByteArray × Value)) (i : Nat), es.map (fun e => (e.key, e.val)) = l.map (fun p => (Value.string p.1, p.2)) →
    Instr.findNow .string (.string k) es i = some ((l.findIdx? fun p => k == p.1).map fun j => (i + j, ((l.find? fun p => k == p.1).map (·.2)).getD undef))
  | [], l, i, h => by
    have : l = [] := by simpa using h.symm
    subst this
    rfl
  | e :: es, [], i, h => by simp at h
  | e :: es, p :: l, i, h => by
    simp only [List.map_cons, List.cons.injEq, Prod.mk.injEq] at h
    obtain ⟨⟨hk, hv⟩, ht⟩ := h
    have ih := findNow_string k es l (i + 1) ht
    unfold Instr.findNow
    rw [hk]
    have hs : Instr.sameNow .string (.string k) (.string p.1) = some (k == p.1) := rfl
    rw [hs]
    cases hq : (k == p.1) with
    | true => simp [List.findIdx?_cons, hq, hv]
    | false =>
      simp only [ih, List.findIdx?_cons, hq, List.find?_cons, Bool.false_eq_true, if_false, Option.map_map]
      congr 2
      funext j
      simp only [Function.comp]
      rw [Nat.add_assoc, Nat.add_comm 1 j]

theorem bytes_beq (a b : ByteArray) : (a == b) = true ↔ a = b := by
  rw [beq_toListBytes]
  constructor
  · intro h
    have h := eq_of_beq h
    rw [ByteArray.ext_iff, ← Array.toList_inj]
    have e : ∀ x : ByteArray, x.toList = x.data.toList := fun x => Go.ByteArray.toList_eq x
    rw [e, e] at h
    exact h
  · rintro rfl; exact beq_self_eq_true _
theorem bytes_beq_false {a b : ByteArray} (h : a ≠ b) : (a == b) = false := by
  cases hq : (a == b) with
  | false => rfl
  | true => exact absurd ((bytes_beq a b).1 hq) h

theorem mapFind_put (l : List (ByteArray × Value)) (k k' : ByteArray) (v : Value) : mapFind (mapPut l k v) k' = if k' = k then some v else mapFind l k' := by
  unfold mapPut
  cases hq : l.findIdx? (fun p => k == p.1) with
  | none =>
    rw [List.findIdx?_eq_none_iff] at hq
    unfold mapFind
    simp only [List.find?_append]
    by_cases h : k' = k
    · subst h
      have : l.find? (fun p => k' == p.1) = none := by
        rw [List.find?_eq_none]; intro x hx; rw [hq x hx]; decide
      rw [this, if_pos rfl]
      simp [(bytes_beq k' k').2 rfl]
    · rw [if_neg h]
      simp [bytes_beq_false h]
  | some i =>
    obtain ⟨hil, hi, hbefore⟩ := List.findIdx?_eq_some_iff_getElem.1 hq
    have hki := (bytes_beq _ _).1 hi
    clear hq
    simp only
    unfold mapFind
    induction l generalizing i with
    | nil => simp at hil
    | cons p l ih =>
      cases i with
      | zero =>
        simp only [List.modify_zero_cons, List.find?_cons]
        simp only [List.getElem_cons_zero] at hki
        subst hki
        by_cases h : k' = p.1
        · subst h; simp [(bytes_beq p.1 p.1).2 rfl]
        · simp [bytes_beq_false h, h]
      | succ i =>
        have hp : (k == p.1) = false := by
          have := hbefore 0 (by omega)
          simpa using this
        simp only [List.modify_succ_cons, List.find?_cons]
        cases hk' : (k' == p.1) with
        | true =>
          have e1 := (bytes_beq _ _).1 hk'
          have : k' ≠ k := by
            rintro rfl; rw [hk'] at hp; cases hp
          simp [this]
        | false =>
          exact ih i (by simpa using hil) (by simpa using hi) (fun j hj => by have := hbefore (j + 1) (by omega); simpa using this) (by simpa using hki)

section
variable {P : Program} {w : World} {b : Nat} {l : List (ByteArray × Value)}
theorem run_checkKey_string (empty : Bool) (n : Nat) (kt : TypeId) (hk : P.underlying kt = some .string) (k : ByteArray) : (Instr.checkKey empty (n + 1) kt (.string k)).run P w = .ok () w := by
  simp [Instr.checkKey, run_underlying hk]

theorem run_lookup_string (h : MapAt w b l) (t kt et : TypeId) (ht : P.underlying t = some (.map kt et)) (hk : P.underlying kt = some .string) (z : Value) (hz : (zeroValue et).run P w = .ok z w) (k : ByteArray) :
    (Instr.lookup t (.map (some b)) (.string k) false).run P w = .ok ((mapFind l k).getD z) w := by
  obtain ⟨es, clock, hb, he, _⟩ := h
  have hf := findNow_string k es.toList l 0 he
  have hc : (Instr.checkKey es.isEmpty 10000 kt (.string k)).run P w = .ok () w := run_checkKey_string _ 9999 kt hk k
  simp only [Instr.lookup, Sem.run_bind, run_underlying ht, Result.andThen_ok, MapKept.run_getObj_map hb, Sem.run_pure, hc, Instr.findKey, run_underlying hk, hf]
  unfold mapFind
  cases hq : l.findIdx? fun p => k == p.1 with
  | none =>
    have : l.find? (fun p => k == p.1) = none := by
      rw [List.find?_eq_none]; rw [List.findIdx?_eq_none_iff] at hq
      intro x hx; rw [hq x hx]; decide
    simp [this, hz]
  | some i =>
    cases hp : l.find? fun p => k == p.1 with
    | none =>
      rw [List.find?_eq_none] at hp
      have h2 := (List.findIdx?_eq_some_iff_getElem.1 hq)
      obtain ⟨h3, h4, _⟩ := h2
      exact absurd h4 (hp _ (List.getElem_mem h3))
    | some p => simp

theorem run_mapUpdate_string (h : MapAt w b l) (t kt et : TypeId) (ht : P.underlying t = some (.map kt et)) (hk : P.underlying kt = some .string) (k : ByteArray) (v : Value) :
    ∃ w', (Instr.mapUpdate t (.map (some b)) (.string k) v).run P w = .ok () w' ∧ MapAt w' b (mapPut l k v) ∧ At b w w' := by
  obtain ⟨es, clock, hb, he, hbn, hnd, hkn⟩ := h
  have hf := findNow_string k es.toList l 0 he
  have hc : (Instr.checkKey false 10000 kt (.string k)).run P w = .ok () w := run_checkKey_string _ 9999 kt hk k
  have hlt := (Array.getElem?_eq_some_iff.1 hb).1
  have hat : ∀ o : Obj, At b w { w with heap := w.heap.setIfInBounds b o } := fun o =>
    ⟨rfl, rfl, rfl, by simp, fun k _ hne => by
      have hne : b ≠ k := fun e => hne e.symm
      simp [hne]⟩
  have hnew : ∀ o : Obj, ({ w with heap := w.heap.setIfInBounds b o } : World).heap[b]? = some o := fun o => by simp [hlt]
  unfold mapPut
  cases hq : l.findIdx? fun p => k == p.1 with
  | none =>
    rw [hq] at hf
    refine ⟨{ w with heap := w.heap.setIfInBounds b (.map (es.push { key := .string k, val := v, born := clock }) (clock + 1)) }, ?_, ⟨_, _, hnew _, ?_, ?_, ?_, ?_⟩, hat _⟩
    · simp only [Instr.mapUpdate, Sem.run_bind, run_underlying ht, Result.andThen_ok, MapKept.run_getObj_map hb, Sem.run_pure, hc, Instr.findKey, run_underlying hk, hf, Option.map_none, MapKept.run_setObj_map _ hb]
    · simp [he]
    · intro x hx
      rw [Array.toList_push, List.mem_append, List.mem_singleton] at hx
      rcases hx with hx | rfl
      · have := hbn x hx; omega
      · exact Nat.lt_succ_self _
    · rw [Array.toList_push, List.map_append, List.map_cons, List.map_nil, List.nodup_append]
      refine ⟨hnd, by simp, fun a ha b hb2 => ?_⟩
      obtain ⟨x, hx, rfl⟩ := List.mem_map.1 ha
      rw [List.mem_singleton] at hb2
      have hb2 : b = clock := hb2
      have := hbn x hx
      omega
    · rw [List.map_append, List.map_cons, List.map_nil, List.nodup_append]
      refine ⟨hkn, by simp, fun a ha b hb2 => ?_⟩
      obtain ⟨x, hx, rfl⟩ := List.mem_map.1 ha
      rw [List.mem_singleton] at hb2
      rw [List.findIdx?_eq_none_iff] at hq
      intro e
      have := hq x hx
      rw [e, hb2, (bytes_beq k k).2 rfl] at this
      cases this
  | some i =>
    rw [hq] at hf
    have hil : i < l.length := by
      have := List.findIdx?_eq_some_iff_getElem.1 hq
      exact this.1
    have hie : i < es.toList.length := by
      have := congrArg List.length he; simp only [List.length_map] at this; omega
    have hkey : (es.toList[i]'hie).key = .string k := by
      have h1 := congrArg (fun x => x[i]?) he
      simp only [List.getElem?_map, List.getElem?_eq_getElem hie, List.getElem?_eq_getElem hil, Option.map_some, Option.some.injEq, Prod.mk.injEq] at h1
      rw [h1.1]
      have h2 := (List.findIdx?_eq_some_iff_getElem.1 hq).2.1
      rw [(bytes_beq _ _).1 h2]
    have hold : ((es[i]?).map (·.key)).getD (.string k) = .string k := by
      rw [← Array.getElem?_toList, List.getElem?_eq_getElem hie]
      simpa using hkey
    have hstay : (Instr.keyThatStays (.string k) (.string k)).run P w = .ok (.string k) w := by
      have : Instr.sameBits 10000 (.string k) (.string k) = true := by
        show (k == k) = true
        exact (bytes_beq k k).2 rfl
      simp [Instr.keyThatStays, this]
    refine ⟨{ w with heap := w.heap.setIfInBounds b (.map (es.modify i fun e => { e with key := .string k, val := v }) clock) }, ?_, ⟨_, _, hnew _, ?_, ?_, ?_, ?_⟩, hat _⟩
    · simp only [Instr.mapUpdate, Sem.run_bind, run_underlying ht, Result.andThen_ok, MapKept.run_getObj_map hb, Sem.run_pure, hc, Instr.findKey, run_underlying hk, hf, Option.map_some, Nat.zero_add, hold, hstay, MapKept.run_setObj_map _ hb]
    · simp only [Array.toList_modify]
      apply List.ext_getElem?
      intro j
      have h1 := congrArg (fun x => x[j]?) he
      simp only [List.getElem?_map, List.getElem?_modify] at h1 ⊢
      by_cases hij : i = j
      · subst hij
        have hk2 : l[i]? = some l[i] := List.getElem?_eq_getElem hil
        have he2 : es.toList[i]? = some es.toList[i] := List.getElem?_eq_getElem hie
        rw [hk2, he2] at h1 ⊢
        simp only [if_true, Option.map_some, Option.some.injEq, Prod.mk.injEq, Option.map_eq_map] at h1 ⊢
        have h2 := (List.findIdx?_eq_some_iff_getElem.1 hq).2.1
        rw [(bytes_beq _ _).1 h2]
        exact ⟨rfl, trivial⟩
      · simp only [if_neg hij, Option.map_eq_map, Option.map_id']
        exact h1
    · intro x hx
      rw [Array.toList_modify] at hx
      obtain ⟨j, hj, e⟩ := List.getElem_of_mem hx
      rw [List.getElem_modify] at e
      rw [List.length_modify] at hj
      have h2 := hbn _ (List.getElem_mem hj)
      rw [← e]
      split <;> exact h2
    · have e : ((es.modify i fun e => { e with key := .string k, val := v }).toList.map (·.born)) = es.toList.map (·.born) := by
        rw [Array.toList_modify]
        apply List.ext_getElem (by simp)
        intro j h1 h2
        rw [List.getElem_map, List.getElem_map, List.getElem_modify]
        split <;> rfl
      rw [e]; exact hnd
    · have e : (l.modify i fun p => (p.1, v)).map (·.1) = l.map (·.1) := by
        apply List.ext_getElem (by simp)
        intro j h1 h2
        rw [List.getElem_map, List.getElem_map, List.getElem_modify]
        split <;> rfl
      rw [e]; exact hkn
end

theorem strOfNums_inj {a b : List Int} (ha : ∀ x ∈ a, 0 ≤ x ∧ x ≤ 255) (hb : ∀ x ∈ b, 0 ≤ x ∧ x ≤ 255) (h : strOfNums a = strOfNums b) : a = b := by
  have h : a.map (fun n => UInt8.ofNat n.toNat) = b.map (fun n => UInt8.ofNat n.toNat) := by
    rw [← strOfNums_data, ← strOfNums_data, h]
  induction a generalizing b with
  | nil => cases b with
    | nil => rfl
    | cons y b => simp at h
  | cons x a ih =>
    cases b with
    | nil => simp at h
    | cons y b =>
      simp only [List.map_cons, List.cons.injEq] at h
      have hx := ha x (by simp)
      have hy := hb y (by simp)
      have h1 := congrArg UInt8.toNat h.1
      simp only [UInt8.toNat_ofNat'] at h1
      rw [Nat.mod_eq_of_lt (by omega), Nat.mod_eq_of_lt (by omega)] at h1
      have : x = y := by omega
      subst this
      rw [ih (fun z hz => ha z (by simp [hz])) (fun z hz => hb z (by simp [hz])) (by unfold strOfNums; rw [h.2]) h.2]
end Go.Proofs.Ytapfihlgemejiaa
