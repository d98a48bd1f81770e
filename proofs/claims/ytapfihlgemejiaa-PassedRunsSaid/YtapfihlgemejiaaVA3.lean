/- The store of zones, plain: entries in a row, each with key, zone, when it was taken, and whether it is gone. -/
import Derived.Test.YtapfihlgemejiaaVA0
namespace Go.Proofs.Ytapfihlgemejiaa
/-- An entry; ka, kc, zb tell where its key and its zone lie (no plain function looks at them). -/
structure Ent where
  key : List Int
  zone : Zn
  taken : Int
  gone : Bool
  ka : Option (Nat × Nat)
  kc : Nat
  zb : Nat

structure Sto where
  last : Bool
  ents : List Ent
  tk : Int

def noEnt : Ent := { key := [], zone := ⟨0, []⟩, taken := -1, gone := false, ka := none, kc := 0, zb := 0 }
def entAt (l : List Ent) (i : Nat) : Ent := l.getD i noEnt

/-- Does entry i stand under a key? -/
def under (l : List Ent) (key : List Int) (i : Nat) : Bool := decide ((entAt l i).key = key) && !(entAt l i).gone
/-- The entries of a key that are not gone. -/
def idxs (l : List Ent) (key : List Int) : List Nat := (List.range l.length).filter (under l key)
/-- The first of some entries that includes a zone; -1: none. -/
def firstIn (l : List Ent) (z : Zn) : List Nat → Int
  | [] => -1
  | i :: r => if inclB (entAt l i).zone z then (i : Int) else firstIn l z r
def coversS (l : List Ent) (key : List Int) (z : Zn) : Int := firstIn l z (idxs l key)
def waitsB (e : Ent) : Bool := !e.gone && decide (e.taken < 0)
def waitS (s : Sto) : List Nat := if s.last then ((List.range s.ents.length).filter fun i => waitsB (entAt s.ents i)).reverse else (List.range s.ents.length).filter fun i => waitsB (entAt s.ents i)
def goneE (e : Ent) : Ent := { e with gone := true }
/-- The entries, some of them gone. -/
def dropAll (l : List Ent) (d : List Nat) : List Ent := d.foldl (fun l i => l.modify i goneE) l
def dropped (l : List Ent) (key : List Int) (z : Zn) : List Nat := (idxs l key).filter fun i => inclB z (entAt l i).zone
def keptOf (l : List Ent) (key : List Int) (z : Zn) : List Nat := (idxs l key).filter fun i => !inclB z (entAt l i).zone
def takeE (k : Int) (e : Ent) : Ent := { e with taken := k }

/-- What holds of each store. -/
structure Sto.Ok (s : Sto) : Prop where
  few : s.ents.length ≤ 4096
  count : s.tk = ((s.ents.filter fun e => decide (0 ≤ e.taken)).length : Int)

theorem Sto.Ok.tk_le {s : Sto} (h : s.Ok) : 0 ≤ s.tk ∧ s.tk ≤ s.ents.length := by
  have h1 := h.count
  have h2 := List.length_filter_le (fun e : Ent => decide (0 ≤ e.taken)) s.ents
  omega
theorem entAt_eq {l : List Ent} {i : Nat} (h : i < l.length) : entAt l i = l[i] := by
  unfold entAt; rw [List.getD_eq_getElem?_getD, List.getElem?_eq_getElem h]; rfl
theorem idxs_lt {l : List Ent} {key : List Int} {i : Nat} (h : i ∈ idxs l key) : i < l.length := by
  unfold idxs at h
  have := (List.mem_filter.1 h).1
  exact List.mem_range.1 this
theorem idxs_length_le (l : List Ent) (key : List Int) : (idxs l key).length ≤ l.length := by
  have := List.length_filter_le (under l key) (List.range l.length)
  rw [List.length_range] at this
  exact this
theorem idxs_get_lt {l : List Ent} {key : List Int} (k : Nat) (h : k < (idxs l key).length) : (idxs l key).getD k 0 < l.length := by
  apply idxs_lt (key := key)
  rw [List.getD_eq_getElem?_getD, List.getElem?_eq_getElem h]
  exact List.getElem_mem h

theorem dropAll_length (l : List Ent) (d : List Nat) : (dropAll l d).length = l.length := by
  unfold dropAll
  induction d generalizing l with
  | nil => rfl
  | cons i d ih => rw [List.foldl_cons, ih, List.length_modify]
theorem dropAll_snoc (l : List Ent) (d : List Nat) (i : Nat) : dropAll l (d ++ [i]) = (dropAll l d).modify i goneE := by
  unfold dropAll; rw [List.foldl_append]; rfl
theorem entAt_modify (l : List Ent) (i j : Nat) (f : Ent → Ent) (hi : i < l.length) : entAt (l.modify i f) j = if j = i then f (entAt l j) else entAt l j := by
  unfold entAt
  rw [List.getD_eq_getElem?_getD, List.getElem?_modify, List.getD_eq_getElem?_getD]
  by_cases h : j = i
  · subst h; simp [List.getElem?_eq_getElem hi]
  · have h' : ¬ i = j := fun e => h e.symm
    rw [if_neg h]; simp [h']
theorem entAt_dropAll (l : List Ent) (d : List Nat) (hd : ∀ i ∈ d, i < l.length) (j : Nat) : entAt (dropAll l d) j = if j ∈ d then goneE (entAt l j) else entAt l j := by
  induction d generalizing l with
  | nil => simp [dropAll]
  | cons i d ih =>
    have hi := hd i (by simp)
    show entAt (dropAll (l.modify i goneE) d) j = _
    rw [ih (l.modify i goneE) (fun k hk => by rw [List.length_modify]; exact hd k (by simp [hk])), entAt_modify l i j goneE hi]
    by_cases h : j = i
    · subst h
      simp only [if_true, List.mem_cons, true_or]
      split <;> rfl
    · rw [if_neg h]
      simp only [List.mem_cons, h, false_or]
theorem mem_of_entAt {l : List Ent} {e : Ent} (h : e ∈ l) : ∃ i, i < l.length ∧ entAt l i = e := by
  obtain ⟨i, hi, he⟩ := List.getElem_of_mem h
  exact ⟨i, hi, by rw [entAt_eq hi, he]⟩
theorem take_succ_getD {l : List Nat} {k : Nat} (h : k < l.length) : l.take (k + 1) = l.take k ++ [l.getD k 0] := by
  rw [List.take_add_one, List.getElem?_eq_getElem h, List.getD_eq_getElem?_getD, List.getElem?_eq_getElem h]; rfl

/-- A store behind a Put that stores. -/
def putS (s : Sto) (key : List Int) (z : Zn) (ka : Option (Nat × Nat)) (kc zb : Nat) : Sto :=
  { s with ents := dropAll s.ents (dropped s.ents key z) ++ [{ key := key, zone := z, taken := -1, gone := false, ka := ka, kc := kc, zb := zb }] }

theorem entAt_append_left {l : List Ent} {e : Ent} {i : Nat} (h : i < l.length) : entAt (l ++ [e]) i = entAt l i := by
  unfold entAt; rw [List.getD_eq_getElem?_getD, List.getElem?_append_left h, List.getD_eq_getElem?_getD]
theorem entAt_append_right {l : List Ent} {e : Ent} : entAt (l ++ [e]) l.length = e := by
  unfold entAt; rw [List.getD_eq_getElem?_getD, List.getElem?_append_right (Nat.le_refl _)]; simp
theorem idxs_snoc (l : List Ent) (e : Ent) (key : List Int) : idxs (l ++ [e]) key = idxs l key ++ (if e.key = key ∧ e.gone = false then [l.length] else []) := by
  unfold idxs
  rw [List.length_append, List.length_singleton, List.range_succ, List.filter_append]
  congr 1
  · apply List.filter_congr
    intro i hi
    have hi := List.mem_range.1 hi
    unfold under
    rw [entAt_append_left hi]
  · simp only [List.filter_cons, List.filter_nil]
    unfold under
    rw [entAt_append_right]
    by_cases h1 : e.key = key
    · cases h2 : e.gone <;> simp [h1]
    · simp [h1]
theorem mem_dropped {l : List Ent} {key : List Int} {z : Zn} {i : Nat} : i ∈ dropped l key z ↔ i < l.length ∧ (entAt l i).key = key ∧ (entAt l i).gone = false ∧ inclB z (entAt l i).zone = true := by
  unfold dropped idxs under
  simp only [List.mem_filter, List.mem_range, Bool.and_eq_true, decide_eq_true_eq, Bool.not_eq_true']
  constructor
  · rintro ⟨⟨h1, h2, h3⟩, h4⟩; exact ⟨h1, h2, h3, h4⟩
  · rintro ⟨h1, h2, h3, h4⟩; exact ⟨⟨h1, h2, h3⟩, h4⟩
theorem dropped_lt {l : List Ent} {key : List Int} {z : Zn} : ∀ i ∈ dropped l key z, i < l.length := fun _ h => (mem_dropped.1 h).1
theorem idxs_dropAll (l : List Ent) (key : List Int) (z : Zn) (k : List Int) : idxs (dropAll l (dropped l key z)) k = if k = key then keptOf l key z else idxs l k := by
  have hlen := dropAll_length l (dropped l key z)
  have he := fun i => entAt_dropAll l (dropped l key z) dropped_lt i
  unfold idxs
  rw [hlen]
  by_cases hk : k = key
  · subst hk
    rw [if_pos rfl]
    unfold keptOf idxs
    rw [List.filter_filter]
    apply List.filter_congr
    intro i hi
    have hi := List.mem_range.1 hi
    unfold under
    rw [he i]
    by_cases hd : i ∈ dropped l k z
    · rw [if_pos hd]
      obtain ⟨_, h2, h3, h4⟩ := mem_dropped.1 hd
      simp [goneE, h4]
    · rw [if_neg hd]
      cases h4 : inclB z (entAt l i).zone with
      | false => simp
      | true =>
        have : ¬ ((entAt l i).key = k ∧ (entAt l i).gone = false) := fun hh => hd (mem_dropped.2 ⟨hi, hh.1, hh.2, h4⟩)
        by_cases h1 : (entAt l i).key = k
        · have h2 : (entAt l i).gone = true := by
            cases h2 : (entAt l i).gone with
            | true => rfl
            | false => exact absurd ⟨h1, h2⟩ this
          simp [h2]
        · simp [h1]
  · rw [if_neg hk]
    apply List.filter_congr
    intro i _
    unfold under
    rw [he i]
    by_cases hd : i ∈ dropped l key z
    · rw [if_pos hd]
      obtain ⟨_, h2, _, _⟩ := mem_dropped.1 hd
      have : ¬ (entAt l i).key = k := fun e => hk (by rw [← e, h2])
      simp [goneE, this]
    · rw [if_neg hd]
theorem idxs_putS (s : Sto) (key : List Int) (z : Zn) (ka : Option (Nat × Nat)) (kc zb : Nat) (k : List Int) :
    idxs (putS s key z ka kc zb).ents k = if k = key then keptOf s.ents key z ++ [s.ents.length] else idxs s.ents k := by
  unfold putS
  simp only
  rw [idxs_snoc, idxs_dropAll, dropAll_length]
  by_cases hk : k = key
  · subst hk; simp
  · rw [if_neg hk, if_neg hk, if_neg (fun h => hk h.1.symm)]; simp

theorem filter_taken_modify (l : List Ent) (d : List Nat) : ((dropAll l d).filter fun e => decide (0 ≤ e.taken)).length = (l.filter fun e => decide (0 ≤ e.taken)).length := by
  unfold dropAll
  induction d generalizing l with
  | nil => rfl
  | cons i d ih =>
    rw [List.foldl_cons, ih]
    clear ih
    induction l generalizing i with
    | nil => simp
    | cons e l ih =>
      cases i with
      | zero =>
        rw [List.modify_zero_cons, List.filter_cons, List.filter_cons]
        show (if decide (0 ≤ e.taken) = true then _ else _ : List Ent).length = _
        split <;> simp
      | succ i =>
        rw [List.modify_succ_cons, List.filter_cons, List.filter_cons]
        split
        · simp only [List.length_cons]; rw [ih]
        · exact ih i
theorem putS_ok {s : Sto} (h : s.Ok) (hl : s.ents.length < 4096) (key : List Int) (z : Zn) (ka : Option (Nat × Nat)) (kc zb : Nat) : (putS s key z ka kc zb).Ok := by
  refine ⟨?_, ?_⟩
  · unfold putS; simp only [List.length_append, dropAll_length, List.length_singleton]; omega
  · unfold putS
    simp only [List.filter_append, List.length_append, filter_taken_modify]
    rw [h.count]
    simp
end Go.Proofs.Ytapfihlgemejiaa
