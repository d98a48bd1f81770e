/- A store into which a zone is being put: what holds while the entries of the key are gone through. -/
import Derived.Test.YtapfihlgemejiaaVS2
namespace Go.Proofs.Ytapfihlgemejiaa
open Go.RowKit
section
variable {w w' : World} {base e size n : Nat} {v : Value} {xs : List Value}
end
theorem entRow_set (l : List Ent) (i k : Nat) (f : Ent → Ent) (v : Value) (hi : i < l.length) (hk : k < 4) (hf : ∀ e, entCells (f e) = (entCells e).set k v) :
    (entRow l).set (4 * i + k) v = entRow (l.modify i f) := by
  induction l generalizing i with
  | nil => simp at hi
  | cons e l ih =>
    have e1 : entRow (e :: l) = entCells e ++ entRow l := rfl
    rw [e1]
    cases i with
    | zero =>
      rw [List.modify_zero_cons]
      have e2 : entRow (f e :: l) = entCells (f e) ++ entRow l := rfl
      rw [e2, hf, List.set_append_left _ _ (by simp [entCells]; omega)]
      simp
    | succ i =>
      rw [List.modify_succ_cons]
      have e2 : entRow (e :: l.modify i f) = entCells e ++ entRow (l.modify i f) := rfl
      rw [e2, ← ih i (by simpa using hi), List.set_append_right _ _ (by simp [entCells]; omega)]
      congr 2
      simp [entCells]; omega
theorem entRow_gone (l : List Ent) (i : Nat) (hi : i < l.length) : (entRow l).set (4 * i + 3) (.bool true) = entRow (l.modify i goneE) := entRow_set l i 3 goneE _ hi (by omega) (fun _ => rfl)
theorem entRow_take (l : List Ent) (i : Nat) (k : Int) (hi : i < l.length) : (entRow l).set (4 * i + 2) (.int .i64 k) = entRow (l.modify i (takeE k)) := entRow_set l i 2 (takeE k) _ hi (by omega) (fun _ => rfl)

theorem nats_cells (l : List Nat) : ∀ u ∈ nats l, u.oneCell' = true := by
  intro u hu
  obtain ⟨x, _, rfl⟩ := List.mem_map.1 hu
  rfl
theorem nats_snoc (l : List Nat) (i : Nat) : nats l ++ [.int .i64 i] = nats (l ++ [i]) := by simp [nats]

/-- What holds while Put goes through the key's entries: dl is dropped, kl is kept. -/
structure PutRel (base : Nat) (w wr : World) (ps : Nat) (s : Sto) (A : Option Addr) (c pm : Nat) (ml : List (ByteArray × Value)) (dl kl : List Nat) (vd vk : Value) : Prop where
  row : Row wr ps 141 [.bool s.last, .slice A s.ents.length c, .map (some pm), .int .i64 s.tk]
  own : wr.ownsRow base 143 4 (.slice A s.ents.length c) s.ents.length (entRow (dropAll s.ents dl))
  map : MapAt wr pm ml
  keep : Keeps w wr
  below : Below base w wr
  d : wr.ownsRow w.heap.size 3 1 vd dl.length (nats dl)
  k : wr.ownsRow w.heap.size 3 1 vk kl.length (nats kl)
  apart : ∀ g, vd.ownBlock = some g → vk.ownBlock ≠ some g

theorem PutRel.size {base : Nat} {w wr : World} {ps : Nat} {s : Sto} {A : Option Addr} {c pm : Nat} {ml : List (ByteArray × Value)} {dl kl : List Nat} {vd vk : Value}
    (h : PutRel base w wr ps s A c pm ml dl kl vd vk) : w.heap.size ≤ wr.heap.size := h.below.size

/-- New blocks change nothing of it. -/
theorem PutRel.new {base : Nat} {w wr w' : World} {ps : Nat} {s : Sto} {A : Option Addr} {c pm : Nat} {ml : List (ByteArray × Value)} {dl kl : List Nat} {vd vk : Value}
    (h : PutRel base w wr ps s A c pm ml dl kl vd vk) (hn : New wr w') (hb : base ≤ w.heap.size) : PutRel base w w' ps s A c pm ml dl kl vd vk where
  row := hn.row h.row
  own := own_new h.own hn
  map := h.map.fr hn (fun e => e)
  keep := h.keep.trans hn.keeps
  below := h.below.trans (hn.below (by have := h.size; omega))
  d := own_new h.d hn
  k := own_new h.k hn
  apart := h.apart

/-- What an append onto one of the two lists leaves. -/
theorem PutRel.grow_d {base : Nat} {w wr w' : World} {ps : Nat} {s : Sto} {A : Option Addr} {c pm : Nat} {ml : List (ByteArray × Value)} {dl kl : List Nat} {vd vk v' : Value}
    {own' : List Value} (h : Row wr ps 141 [.bool s.last, .slice A s.ents.length c, .map (some pm), .int .i64 s.tk]) (h2 : wr.ownsRow base 143 4 (.slice A s.ents.length c) s.ents.length own') (h3 : MapAt wr pm ml)
    (h4 : Keeps w wr) (h5 : Below base w wr) (hd : wr.ownsRow w.heap.size 3 1 vd dl.length (nats dl)) (hk : wr.ownsRow w.heap.size 3 1 vk kl.length (nats kl))
    (hap : ∀ g, vd.ownBlock = some g → vk.ownBlock ≠ some g) (hb : base ≤ w.heap.size)
    (hg : wr.grownBy w' vd.ownBlock) (hloc : v'.ownBlock = vd.ownBlock ∨ v'.ownBlock = some wr.heap.size) :
    Row w' ps 141 [.bool s.last, .slice A s.ents.length c, .map (some pm), .int .i64 s.tk] ∧ w'.ownsRow base 143 4 (.slice A s.ents.length c) s.ents.length own' ∧ MapAt w' pm ml ∧ Keeps w w' ∧ Below base w w' ∧
      w'.ownsRow w.heap.size 3 1 vk kl.length (nats kl) ∧ ∀ g, v'.ownBlock = some g → vk.ownBlock ≠ some g := by
  have hfr : Fr (fun k => vd.ownBlock = some k) wr w' := Fr.of_grown hg (fun k hk _ => hk)
  have hdb : ∀ g, vd.ownBlock = some g → w.heap.size ≤ g ∧ ∃ cur, wr.heap[g]? = some (Obj.cells cur 3 (0, 0)) := fun g hg => own_row hd hg
  refine ⟨hfr.row h (fun e => own_ne hd h (by decide) e), ?_, h3.fr hfr (fun e => own_ne_map hd h3 e), ?_, ?_, ?_, ?_⟩
  · refine own_keep h2 fun g hg2 => ?_
    obtain ⟨_, cur, hc⟩ := own_row h2 hg2
    exact hg.block g (Array.getElem?_eq_some_iff.1 hc).1 (fun e => own_ne hd hc (by decide) e.symm)
  · intro g cs t fr hgc t1 t2
    have e1 := h4 g cs t fr hgc t1 t2
    have hlt : g < w.heap.size := (Array.getElem?_eq_some_iff.1 hgc).1
    refine (hg.block g (by have := h5.size; omega) (fun e => ?_)).trans e1
    have := (hdb g e.symm).1
    omega
  · exact h5.grown hg (by have := h5.size; omega) (fun k hk => by have := (hdb k hk).1; omega)
  · refine own_keep hk fun g hg2 => ?_
    obtain ⟨_, cur, hc⟩ := own_row hk hg2
    exact hg.block g (Array.getElem?_eq_some_iff.1 hc).1 (fun e => hap g e.symm hg2)
  · intro g hg2 hg3
    rcases hloc with hl | hl
    · exact hap g (hl ▸ hg2) hg3
    · rw [hg2] at hl
      obtain ⟨_, cur, hc⟩ := own_row hk hg3
      have := (Array.getElem?_eq_some_iff.1 hc).1
      injection hl with hl
      omega

section
variable {base : Nat} {w wr w' : World} {ps : Nat} {s : Sto} {c pm : Nat} {ml : List (ByteArray × Value)} {dl kl : List Nat} {vd vk v' : Value}
/-- An entry is marked as gone. -/
theorem PutRel.mark {pe i : Nat} (h : PutRel base w wr ps s (some ⟨pe, 0, none⟩) c pm ml dl kl vd vk) (hi : i < s.ents.length) (hbp : base ≤ pe) (hpe : ∃ cur, wr.heap[pe]? = some (Obj.cells cur 143 (0, 0))) :
    Row (wr.setCell ⟨pe, i * 4 + 3, none⟩ (.bool true)) ps 141 [.bool s.last, .slice (some ⟨pe, 0, none⟩) s.ents.length c, .map (some pm), .int .i64 s.tk] ∧
      (wr.setCell ⟨pe, i * 4 + 3, none⟩ (.bool true)).ownsRow base 143 4 (.slice (some ⟨pe, 0, none⟩) s.ents.length c) s.ents.length (entRow (dropAll s.ents (dl ++ [i]))) ∧
      MapAt (wr.setCell ⟨pe, i * 4 + 3, none⟩ (.bool true)) pm ml ∧ Keeps w (wr.setCell ⟨pe, i * 4 + 3, none⟩ (.bool true)) ∧ Below base w (wr.setCell ⟨pe, i * 4 + 3, none⟩ (.bool true)) ∧
      (wr.setCell ⟨pe, i * 4 + 3, none⟩ (.bool true)).ownsRow w.heap.size 3 1 vd dl.length (nats dl) ∧ (wr.setCell ⟨pe, i * 4 + 3, none⟩ (.bool true)).ownsRow w.heap.size 3 1 vk kl.length (nats kl) := by
  obtain ⟨cur, hc⟩ := hpe
  have hat : At pe wr (wr.setCell ⟨pe, i * 4 + 3, none⟩ (.bool true)) := (At.refl pe wr).set _ _
  have hne : ∀ g cs t fr, wr.heap[g]? = some (Obj.cells cs t fr) → t ≠ 143 → (wr.setCell ⟨pe, i * 4 + 3, none⟩ (.bool true)).heap[g]? = wr.heap[g]? := fun g cs t fr hg ht =>
    hat.block g (Array.getElem?_eq_some_iff.1 hg).1 (fun e => by
      have e : g = pe := e
      subst e
      rw [hc] at hg
      simp only [Option.some.injEq, Obj.cells.injEq] at hg
      exact ht hg.2.1.symm)
  refine ⟨(hne ps _ 141 _ h.row (by decide)).trans h.row, ?_, ?_, ?_, h.below.setCell hbp _, ?_, ?_⟩
  · have h1 := own_set h.own (i * 4 + 3) (.bool true)
    rw [dropAll_snoc, ← entRow_gone _ i (by rw [dropAll_length]; exact hi), Nat.mul_comm 4 i]
    exact h1
  · exact h.map.fr hat (fun e => by
      have e : pm = pe := e
      obtain ⟨es, clock, h3, _⟩ := h.map
      rw [e, hc] at h3
      cases h3)
  · intro g cs t fr hg t1 t2
    have e1 := h.keep g cs t fr hg t1 t2
    exact (hne g cs t fr (e1.trans hg) t2).trans e1
  · exact own_keep h.d fun g hg => by
      obtain ⟨_, cur2, h2⟩ := own_row h.d hg
      exact hne g _ 3 _ h2 (by decide)
  · exact own_keep h.k fun g hg => by
      obtain ⟨_, cur2, h2⟩ := own_row h.k hg
      exact hne g _ 3 _ h2 (by decide)

theorem PutRel.drop {pe i : Nat} (h : PutRel base w wr ps s (some ⟨pe, 0, none⟩) c pm ml dl kl vd vk) (hi : i < s.ents.length) (hbp : base ≤ pe) (hpe : ∃ cur, wr.heap[pe]? = some (Obj.cells cur 143 (0, 0))) (hb : base ≤ w.heap.size)
    (o : Obj) (ho : w'.ownsRow w.heap.size 3 1 v' (dl.length + 1) (nats dl ++ [.int .i64 i]))
    (hg : ((wr.setCell ⟨pe, i * 4 + 3, none⟩ (.bool true)).alloc o).grownBy w' vd.ownBlock) (hloc : v'.ownBlock = vd.ownBlock ∨ v'.ownBlock = some ((wr.setCell ⟨pe, i * 4 + 3, none⟩ (.bool true)).alloc o).heap.size) :
    PutRel base w w' ps s (some ⟨pe, 0, none⟩) c pm ml (dl ++ [i]) kl v' vk := by
  obtain ⟨m1, m2, m3, m4, m5, m6, m7⟩ := h.mark hi hbp hpe
  have hn : New (wr.setCell ⟨pe, i * 4 + 3, none⟩ (.bool true)) ((wr.setCell ⟨pe, i * 4 + 3, none⟩ (.bool true)).alloc o) := (New.refl _).alloc o
  have hsz : w.heap.size ≤ (wr.setCell ⟨pe, i * 4 + 3, none⟩ (.bool true)).heap.size := m5.size
  obtain ⟨g1, g2, g3, g4, g5, g6, g7⟩ := PutRel.grow_d (hn.row m1) (own_new m2 hn) (m3.fr hn (fun e => e)) (m4.trans hn.keeps) (m5.trans (hn.below (by omega))) (own_new m6 hn) (own_new m7 hn) h.apart hb hg hloc
  exact ⟨g1, g2, g3, g4, g5, by rw [← nats_snoc, List.length_append]; exact ho, g6, g7⟩

theorem PutRel.stay {A : Option Addr} {i : Nat} (h : PutRel base w wr ps s A c pm ml dl kl vd vk) (hb : base ≤ w.heap.size)
    (o : Obj) (ho : w'.ownsRow w.heap.size 3 1 v' (kl.length + 1) (nats kl ++ [.int .i64 i]))
    (hg : (wr.alloc o).grownBy w' vk.ownBlock) (hloc : v'.ownBlock = vk.ownBlock ∨ v'.ownBlock = some (wr.alloc o).heap.size) :
    PutRel base w w' ps s A c pm ml dl (kl ++ [i]) vd v' := by
  have hn : New wr (wr.alloc o) := (New.refl _).alloc o
  have h1 := h.new hn hb
  obtain ⟨g1, g2, g3, g4, g5, g6, g7⟩ := PutRel.grow_d h1.row h1.own h1.map h1.keep h1.below h1.k h1.d (fun g e1 e2 => h1.apart g e2 e1) hb hg hloc
  exact ⟨g1, g2, g3, g4, g5, g6, by rw [← nats_snoc, List.length_append]; exact ho, fun g e1 e2 => g7 g e2 e1⟩
end
def newEnt (key : List Int) (z : Zn) (ka : Option (Nat × Nat)) (kc zb : Nat) : Ent := { key := key, zone := z, taken := -1, gone := false, ka := ka, kc := kc, zb := zb }

/-- What holds once the new entry stands in the row. -/
structure Put2 (base : Nat) (w wr : World) (ps : Nat) (s : Sto) (A : Option Addr) (c pm : Nat) (ml : List (ByteArray × Value)) (dl kl : List Nat) (vd vk : Value) (e : Ent) : Prop where
  row : Row wr ps 141 [.bool s.last, .slice A (s.ents.length + 1) c, .map (some pm), .int .i64 s.tk]
  own : wr.ownsRow base 143 4 (.slice A (s.ents.length + 1) c) (s.ents.length + 1) (entRow (dropAll s.ents dl ++ [e]))
  map : MapAt wr pm ml
  keep : Keeps w wr
  below : Below base w wr
  d : wr.ownsRow w.heap.size 3 1 vd dl.length (nats dl)
  k : wr.ownsRow w.heap.size 3 1 vk kl.length (nats kl)
  apart : ∀ g, vd.ownBlock = some g → vk.ownBlock ≠ some g
  ent : EntOk wr e

theorem entRow_snoc (l : List Ent) (e : Ent) : entRow (l ++ [e]) = entRow l ++ entCells e := by simp [entRow]
theorem own_cap {w : World} {base e size n : Nat} {A : Option Addr} {c : Nat} {xs : List Value} (h : w.ownsRow base e size (.slice A n c) n xs) : n ≤ c := by
  rcases h.2 with ⟨h1, _⟩ | ⟨g, cap, cur, hv, _, _, hn, _⟩
  · cases h1; exact Nat.le_refl _
  · cases hv; exact hn

section
variable {base : Nat} {w wr w' : World} {ps : Nat} {s : Sto} {A : Option Addr} {c pm : Nat} {ml : List (ByteArray × Value)} {dl kl : List Nat} {vd vk : Value}
theorem PutRel.entries_grown (h : PutRel base w wr ps s A c pm ml dl kl vd vk) (hb : base ≤ w.heap.size) (hg : wr.grownBy w' (Value.slice A s.ents.length c).ownBlock) :
    Row w' ps 141 [.bool s.last, .slice A s.ents.length c, .map (some pm), .int .i64 s.tk] ∧ MapAt w' pm ml ∧ Keeps w w' ∧ Below base w w' ∧
      w'.ownsRow w.heap.size 3 1 vd dl.length (nats dl) ∧ w'.ownsRow w.heap.size 3 1 vk kl.length (nats kl) := by
  have hfr : Fr (fun k => (Value.slice A s.ents.length c).ownBlock = some k) wr w' := Fr.of_grown hg (fun k hk _ => hk)
  have hne : ∀ g cs t fr, wr.heap[g]? = some (Obj.cells cs t fr) → t ≠ 143 → w'.heap[g]? = wr.heap[g]? := fun g cs t fr hgc ht =>
    hfr.block g (Array.getElem?_eq_some_iff.1 hgc).1 (own_ne h.own hgc (fun e => ht e.symm))
  have hsz := h.size
  refine ⟨(hne ps _ 141 _ h.row (by decide)).trans h.row, h.map.fr hfr (own_ne_map h.own h.map), ?_, h.below.grown hg (by omega) (fun k hk => (own_row h.own hk).1), ?_, ?_⟩
  · intro g cs t fr hgc t1 t2
    have e1 := h.keep g cs t fr hgc t1 t2
    exact (hne g cs t fr (e1.trans hgc) t2).trans e1
  · exact own_keep h.d fun g hg2 => by
      obtain ⟨_, cur2, h2⟩ := own_row h.d hg2
      exact hne g _ 3 _ h2 (by decide)
  · exact own_keep h.k fun g hg2 => by
      obtain ⟨_, cur2, h2⟩ := own_row h.k hg2
      exact hne g _ 3 _ h2 (by decide)

theorem PutRel.entry {A' : Option Addr} {c' : Nat} {e : Ent} (h : PutRel base w wr ps s A c pm ml dl kl vd vk) (hb : base ≤ w.heap.size) (hps : base ≤ ps) (hg : wr.grownBy w' (Value.slice A s.ents.length c).ownBlock)
    (ho : w'.ownsRow base 143 4 (.slice A' (s.ents.length + 1) c') (s.ents.length + 1) (entRow (dropAll s.ents dl) ++ entCells e)) (he : EntOk wr e) :
    Put2 base w (w'.setCell ⟨ps, 1, none⟩ (.slice A' (s.ents.length + 1) c')) ps s A' c' pm ml dl kl vd vk e := by
  obtain ⟨g1, g3, g4, g5, g6, g7⟩ := h.entries_grown hb hg
  have hfr : Fr (fun k => (Value.slice A s.ents.length c).ownBlock = some k) wr w' := Fr.of_grown hg (fun k hk _ => hk)
  have hk1 : Keeps wr w' := fun g cs t fr hgc t1 t2 => hfr.block g (Array.getElem?_eq_some_iff.1 hgc).1 (own_ne h.own hgc (fun e => t2 e.symm))
  have hat : At ps w' (w'.setCell ⟨ps, 1, none⟩ (.slice A' (s.ents.length + 1) c')) := (At.refl ps w').set _ _
  have hne : ∀ g cs t fr, w'.heap[g]? = some (Obj.cells cs t fr) → t ≠ 141 → (w'.setCell ⟨ps, 1, none⟩ (.slice A' (s.ents.length + 1) c')).heap[g]? = w'.heap[g]? := fun g cs t fr hgc ht =>
    hat.block g (Array.getElem?_eq_some_iff.1 hgc).1 (fun e => by
      have e : g = ps := e
      subst e
      have h2 := hgc.symm.trans g1
      simp only [Option.some.injEq, Obj.cells.injEq] at h2
      exact ht h2.2.1)
  have hk2 : Keeps w' (w'.setCell ⟨ps, 1, none⟩ (.slice A' (s.ents.length + 1) c')) := fun g cs t fr hgc t1 _ => hne g cs t fr hgc t1
  refine ⟨g1.set 1 _, ?_, ?_, g4.trans hk2, g5.setCell hps _, ?_, ?_, h.apart, he.keeps (hk1.trans hk2)⟩
  · rw [entRow_snoc]
    exact own_keep ho fun g hg2 => by
      obtain ⟨_, cur2, h2⟩ := own_row ho hg2
      exact hne g _ 143 _ h2 (by decide)
  · exact g3.fr hat (fun e => by
      have e : pm = ps := e
      obtain ⟨es, clock, h3, _⟩ := g3
      rw [e, g1] at h3
      cases h3)
  · exact own_keep g6 fun g hg2 => by
      obtain ⟨_, cur2, h2⟩ := own_row g6 hg2
      exact hne g _ 3 _ h2 (by decide)
  · exact own_keep g7 fun g hg2 => by
      obtain ⟨_, cur2, h2⟩ := own_row g7 hg2
      exact hne g _ 3 _ h2 (by decide)

theorem Put2.drew {e : Ent} (h : Put2 base w wr ps s A c pm ml dl kl vd vk e) : Put2 base w wr.drew ps s A c pm ml dl kl vd vk e :=
  ⟨h.row, h.own, h.map, h.keep.trans (New.keeps (New.refl wr).drew), h.below.drew, h.d, h.k, h.apart, h.ent.keeps (New.keeps (New.refl wr).drew)⟩

/-- What an append onto the kept list leaves. -/
theorem Put2.number {o : Obj} {e : Ent} (h : Put2 base w wr ps s A c pm ml dl kl vd vk e) (hb : base ≤ w.heap.size) (hg : (wr.alloc o).grownBy w' vk.ownBlock) :
    Row w' ps 141 [.bool s.last, .slice A (s.ents.length + 1) c, .map (some pm), .int .i64 s.tk] ∧ w'.ownsRow base 143 4 (.slice A (s.ents.length + 1) c) (s.ents.length + 1) (entRow (dropAll s.ents dl ++ [e])) ∧ MapAt w' pm ml ∧ Keeps w w' ∧ Below base w w' ∧
      w'.ownsRow w.heap.size 3 1 vd dl.length (nats dl) ∧ EntOk w' e := by
  have hn : New wr (wr.alloc o) := (New.refl _).alloc o
  have hfr : Fr (fun k => vk.ownBlock = some k) (wr.alloc o) w' := Fr.of_grown hg (fun k hk _ => hk)
  have hsz : w.heap.size ≤ (wr.alloc o).heap.size := by have := h.below.size; simp; omega
  have hkk := own_new h.k hn
  have hlow : ∀ g, vk.ownBlock = some g → w.heap.size ≤ g := fun g hg2 => (own_row h.k hg2).1
  have hne : ∀ g cs t fr, wr.heap[g]? = some (Obj.cells cs t fr) → t ≠ 3 → w'.heap[g]? = wr.heap[g]? := fun g cs t fr hgc ht => by
    have e1 := hn.block g (Array.getElem?_eq_some_iff.1 hgc).1 (fun e => e)
    have e2 : (wr.alloc o).heap[g]? = some (Obj.cells cs t fr) := e1.trans hgc
    exact (hfr.block g (Array.getElem?_eq_some_iff.1 e2).1 (own_ne hkk e2 (fun e => ht e.symm))).trans e1
  have hK : Keeps w w' := by
    intro g cs t fr hgc t1 t2
    have e1 := h.keep g cs t fr hgc t1 t2
    have e2 := hn.block g (Array.getElem?_eq_some_iff.1 (e1.trans hgc)).1 (fun e => e)
    have hlt : g < w.heap.size := (Array.getElem?_eq_some_iff.1 hgc).1
    exact ((hfr.block g (by omega) (fun e => by have := hlow g e; omega)).trans e2).trans e1
  refine ⟨(hne ps _ 141 _ h.row (by decide)).trans h.row, ?_, (h.map.fr hn (fun e => e)).fr hfr (own_ne_map hkk (h.map.fr hn (fun e => e))), hK, ?_, ?_, ?_⟩
  · exact own_keep h.own fun g hg2 => by
      obtain ⟨_, cur2, h2⟩ := own_row h.own hg2
      exact hne g _ 143 _ h2 (by decide)
  · exact (h.below.trans (hn.below (by have := h.below.size; omega))).grown hg (by omega) (fun k hk => by have := hlow k hk; omega)
  · exact own_keep h.d fun g hg2 => by
      obtain ⟨_, cur2, h2⟩ := own_row h.d hg2
      have e1 := hn.block g (Array.getElem?_eq_some_iff.1 h2).1 (fun e => e)
      exact (hfr.block g (Array.getElem?_eq_some_iff.1 (e1.trans h2)).1 (fun e => h.apart g hg2 e)).trans e1
  · refine ⟨h.ent.bytes, ?_, ?_, h.ent.cap, h.ent.len⟩
    · intro hl
      obtain ⟨b, off, cs, fr, e1, e2, e3⟩ := h.ent.key hl
      exact ⟨b, off, cs, fr, e1, (hne b cs 5 fr e2 (by decide)).trans e2, e3⟩
    · exact ⟨(hne _ _ 177 _ h.ent.zone.row (by decide)).trans h.ent.zone.row, h.ent.zone.len, h.ent.zone.dim⟩

theorem putS_done {w6 : World} {key : List Int} {z : Zn} {ka : Option (Nat × Nat)} {kc zb : Nat} {A0 : Option Addr} {c0 : Nat} {vk' : Value} (h : StoreIn base w ps s A0 c0 pm ml) (hb : base ≤ w.heap.size) (hby : Bytes key) (hok : (putS s key z ka kc zb).Ok)
    (r1 : Row w' ps 141 [.bool s.last, .slice A (s.ents.length + 1) c, .map (some pm), .int .i64 s.tk])
    (r2 : w'.ownsRow base 143 4 (.slice A (s.ents.length + 1) c) (s.ents.length + 1) (entRow (dropAll s.ents (dropped s.ents key z) ++ [newEnt key z ka kc zb])))
    (r4 : Keeps w w') (r5 : Below base w w') (r6 : w'.ownsRow w.heap.size 3 1 vd (dropped s.ents key z).length (nats (dropped s.ents key z))) (r7 : EntOk w' (newEnt key z ka kc zb))
    (r8 : w'.ownsRow w.heap.size 3 1 vk' ((keptOf s.ents key z).length + 1) (nats (keptOf s.ents key z ++ [s.ents.length])))
    (r3 : ∃ l, MapAt w' pm l) (m1 : MapAt w6 pm (mapPut ml (strOfNums key) vk')) (m2 : At pm w' w6) :
    StoreAt base w6 ps (putS s key z ka kc zb) ∧ Keeps w w6 ∧ Below base w w6 ∧ w6.ownsRow w.heap.size 3 1 vd (dropped s.ents key z).length (nats (dropped s.ents key z)) := by
  obtain ⟨l0, r3⟩ := r3
  have hne : ∀ g cs t fr, w'.heap[g]? = some (Obj.cells cs t fr) → w6.heap[g]? = w'.heap[g]? := fun g cs t fr hgc =>
    m2.block g (Array.getElem?_eq_some_iff.1 hgc).1 (fun e => by
      have e : g = pm := e
      obtain ⟨es, clock, h3, _⟩ := r3
      rw [e, h3] at hgc
      cases hgc)
  have hown : ∀ {base e size n : Nat} {v : Value} {xs : List Value}, w'.ownsRow base e size v n xs → w6.ownsRow base e size v n xs := fun ho => own_keep ho fun g hg2 => by
    obtain ⟨_, cur2, h2⟩ := own_row ho hg2
    exact hne g _ _ _ h2
  have hk2 : Keeps w' w6 := fun g cs t fr hgc _ _ => hne g cs t fr hgc
  have hk : Keeps w w6 := r4.trans hk2
  have hbl : Below base w w6 := r5.trans (Fr.below m2 (by have := r5.size; omega) (fun k hk e => by have e : k = pm := e; have := h.lowm; omega))
  obtain ⟨A', c', hvk⟩ := own_form r8
  have hlen : (putS s key z ka kc zb).ents.length = s.ents.length + 1 := by unfold putS; simp [dropAll_length]
  refine ⟨⟨A, c, pm, mapPut ml (strOfNums key) vk', ?_⟩, hk, hbl, hown r6⟩
  have hrow6 := (hne ps _ 141 _ r1).trans r1
  refine { row := ?_, own := ?_, map := m1, of := ?_, ents := ?_, ok := hok, low := h.low, lowm := h.lowm }
  · rw [hlen]; exact hrow6
  · rw [hlen]; exact hown r2
  · intro key' hby'
    rw [mapFind_put, idxs_putS]
    by_cases hkk : key' = key
    · subst hkk
      rw [if_pos rfl, if_pos rfl, List.length_append, List.length_singleton]
      refine ⟨A', c', by rw [Option.getD_some]; exact hvk, ?_⟩
      rw [hvk] at r8
      exact (elemsT_of_own r8).keeps hk2 (by decide) (by decide)
    · rw [if_neg hkk, if_neg (fun e => hkk (strOfNums_inj hby' hby e))]
      obtain ⟨A1, c1, e1, e2⟩ := h.of key' hby'
      exact ⟨A1, c1, e1, e2.keeps hk (by decide) (by decide)⟩
  · intro e he
    have he : e ∈ dropAll s.ents (dropped s.ents key z) ++ [newEnt key z ka kc zb] := he
    rcases List.mem_append.1 he with he | he
    · obtain ⟨i, hi, rfl⟩ := mem_of_entAt he
      rw [dropAll_length] at hi
      rw [entAt_dropAll _ _ dropped_lt]
      have h1 := (h.entOk i hi).keeps hk
      split
      · exact ⟨h1.bytes, h1.key, h1.zone, h1.cap, h1.len⟩
      · exact h1
    · rw [List.mem_singleton.1 he]; exact r7.keeps hk2
end
end Go.Proofs.Ytapfihlgemejiaa
