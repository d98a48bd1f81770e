/- reduce.Classes: the maps of heads and classes, a step. | reduce.Few, plain: the round of a class, what is needed, the few bounds. | reduce.round: the rank of a clock. -/
import Derived.Test.YtapfihlgemejiaaR0
import Derived.Test.YtapfihlgemejiaaM4
import Derived.Test.YtapfihlgemejiaaM5
import Derived.Test.YtapfihlgemejiaaO0
import Derived.Test.YtapfihlgemejiaaN20
import Derived.Deep.RegionLaw
import Derived.Deep.CutBlock
-- reduce.Classes: the maps of heads and classes, a step.
namespace Go.Proofs.Ytapfihlgemejiaa
open Go.RowKit Go.Proofs.YtapfihlgemejiaaW.PrintLast

/-- The map of the heads of the first m clocks. -/
def HeadsAt (w : World) (pm : Nat) (Z : List Int) (m : Nat) : Prop := ∃ ml, IMapAt w pm ml ∧ ∀ y : Nat, y < m → imFind ml (y : Int) = some (.int .i64 (headOf Z y))
/-- The map of the classes of the first m clocks: each class in a block of its own. -/
def MemsAt (base : Nat) (w : World) (pm : Nat) (Z : List Int) (m : Nat) : Prop := ∃ ml, IMapAt w pm ml ∧ ∃ vs : Nat → Value, (∀ y : Nat, (imFind ml (y : Int)).getD (.slice none 0 0) = vs y) ∧
  (∀ y : Nat, (imFind ml (y : Int)).isSome = !(memTo Z m y).isEmpty) ∧ (∀ y, w.ownsRow base 3 1 (vs y) (memTo Z m y).length (nats (memTo Z m y))) ∧
  (∀ y y' g, y ≠ y' → (vs y).ownBlock = some g → (vs y').ownBlock ≠ some g)
theorem own_ne_imap {w : World} {base e size n : Nat} {v : Value} {xs : List Value} (h : w.ownsRow base e size v n xs) {g : Nat} {l : List (Int × Value)} (hg : IMapAt w g l) : v.ownBlock ≠ some g := by
  intro hb
  obtain ⟨_, cur, h2⟩ := own_row h hb
  obtain ⟨es, clock, h3, _⟩ := hg
  rw [h3] at h2
  cases h2
theorem own_fr {S : Nat → Prop} {w w' : World} {base e size n : Nat} {v : Value} {xs : List Value} (h : w.ownsRow base e size v n xs) (hf : Fr S w w') (hs : ∀ g, v.ownBlock = some g → ¬ S g) : w'.ownsRow base e size v n xs :=
  own_keep h fun g hg => by
    obtain ⟨_, cur, h2⟩ := own_row h hg
    exact hf.block g (Array.getElem?_eq_some_iff.1 h2).1 (hs g hg)
theorem own_lt {w : World} {base e size n : Nat} {v : Value} {xs : List Value} (h : w.ownsRow base e size v n xs) {g : Nat} (hg : v.ownBlock = some g) : g < w.heap.size := by
  obtain ⟨_, cur, h2⟩ := own_row h hg
  exact (Array.getElem?_eq_some_iff.1 h2).1
theorem MemsAt.step {base : Nat} {wo w10 w11 w12 : World} {pm ph : Nat} {Z : List Int} {m : Nat} {mem lh : List (Int × Value)} {vs : Nat → Value} {v' : Value}
    (hmem : IMapAt wo pm mem) (hv1 : ∀ y : Nat, (imFind mem (y : Int)).getD (.slice none 0 0) = vs y)
    (hv2 : ∀ y : Nat, (imFind mem (y : Int)).isSome = !(memTo Z m y).isEmpty) (hv3 : ∀ y, wo.ownsRow base 3 1 (vs y) (memTo Z m y).length (nats (memTo Z m y)))
    (hv4 : ∀ y y' g, y ≠ y' → (vs y).ownBlock = some g → (vs y').ownBlock ≠ some g)
    (hph : IMapAt wo ph lh) (hf : Fr (fun k => k = ph) wo w10)
    (ho : w11.ownsRow base 3 1 v' ((memTo Z m (headOf Z m)).length + 1) (nats (memTo Z m (headOf Z m)) ++ [.int .i64 m]))
    (hg : w10.grownBy w11 (vs (headOf Z m)).ownBlock) (hb : v'.ownBlock = (vs (headOf Z m)).ownBlock ∨ (v'.ownBlock = some w10.heap.size ∧ New w10 w11))
    (hm11 : IMapAt w11 pm mem) (hm12 : IMapAt w12 pm (imPut mem (headOf Z m) v')) (hat : At pm w11 w12) : MemsAt base w12 pm Z (m + 1) := by
  refine ⟨_, hm12, fun y => if y = headOf Z m then v' else vs y, fun y => ?_, fun y => ?_, fun y => ?_, fun y y' g hne => ?_⟩
  · rw [imFind_put]
    by_cases e : y = headOf Z m
    · rw [if_pos (by omega)]; simp [e]
    · rw [if_neg (by omega)]; simp only [if_neg e]; exact hv1 y
  · rw [imFind_put, memTo_succ]
    by_cases e : y = headOf Z m
    · rw [if_pos (by omega), if_pos e.symm]; simp
    · rw [if_neg (by omega), if_neg (fun h => e h.symm), hv2 y]; simp
  · rw [memTo_succ]
    by_cases e : y = headOf Z m
    · subst e
      simp only [if_true]
      have h1 := own_fr ho hat (fun g hg' => own_ne_imap ho hm11 |> fun h e => h (by rw [hg', show g = pm from e]))
      simpa [nats] using h1
    · simp only [if_neg e, if_neg (fun h : headOf Z m = y => e h.symm), List.append_nil]
      refine own_fr (own_fr (own_fr (hv3 y) hf (fun g hg' e => own_ne_imap (hv3 y) hph (by rw [hg', show g = ph from e]))) (Fr.of_grown (S := fun k => (vs (headOf Z m)).ownBlock = some k) hg (fun k hk _ => hk)) (fun g hg' e' => ?_)) hat (fun g hg' e => own_ne_imap (hv3 y) hmem (by rw [hg', show g = pm from e]))
      exact hv4 _ _ g e hg' e'
  · have hlt : ∀ y g, (vs y).ownBlock = some g → g < w10.heap.size := fun y g h => Nat.lt_of_lt_of_le (own_lt (hv3 y) h) hf.size
    intro h1 h2
    by_cases e : y = headOf Z m
    · have e' : ¬ y' = headOf Z m := fun h => hne (e.trans h.symm)
      simp only [if_pos e] at h1
      simp only [if_neg e'] at h2
      rcases hb with hb | ⟨hb, _⟩
      · rw [hb] at h1; exact hv4 _ _ g (fun h => e' h.symm) h1 h2
      · rw [hb] at h1; have := hlt _ _ h2; cases h1; omega
    · simp only [if_neg e] at h1
      by_cases e' : y' = headOf Z m
      · simp only [if_pos e'] at h2
        rcases hb with hb | ⟨hb, _⟩
        · rw [hb] at h2; exact hv4 _ _ g (fun h => e h) h1 h2
        · rw [hb] at h2; have := hlt _ _ h1; cases h2; omega
      · simp only [if_neg e'] at h2
        exact hv4 _ _ g hne h1 h2
/-- Of the first k clocks those that head a class. -/
def headsL (Z : List Int) (n k : Nat) : List Nat := (List.range k).filter fun y => !(memTo Z n y).isEmpty
theorem headsL_succ (Z : List Int) (n k : Nat) : headsL Z n (k + 1) = headsL Z n k ++ if (memTo Z n k).isEmpty then [] else [k] := by
  unfold headsL
  rw [List.range_succ, List.filter_append]
  congr 1
  by_cases h : (memTo Z n k).isEmpty <;> simp [h]
def rowsL (Z : List Int) (vs : Nat → Value) (n k : Nat) : List Value := (headsL Z n k).map vs
/-- A list of lists of whole numbers, all in blocks of their own. -/
def LolAt (base : Nat) (w : World) (v : Value) (ls : List (List Nat)) : Prop := ∃ bs : List Value, bs.length = ls.length ∧ w.ownsRow base 25 1 v ls.length bs ∧
  (∀ i u, bs[i]? = some u → w.ownsRow base 3 1 u (ls.getD i []).length (nats (ls.getD i []))) ∧ (∀ (i j : Nat) u u' g, i ≠ j → bs[i]? = some u → bs[j]? = some u' → u.ownBlock = some g → u'.ownBlock ≠ some g)
theorem classesL_eq (Z : List Int) (n : Nat) : classesL Z n = (headsL Z (n + 1) (n + 1)).map (memTo Z (n + 1)) := by
  unfold classesL headsL
  rw [List.filter_map]
  rfl
theorem headsL_nodup (Z : List Int) (n k : Nat) : (headsL Z n k).Nodup := List.Nodup.sublist (List.filter_sublist) List.nodup_range
theorem lol_of {w : World} {base : Nat} {v : Value} {Z : List Int} {n : Nat} {vs : Nat → Value} (h : w.ownsRow base 25 1 v (headsL Z (n + 1) (n + 1)).length (rowsL Z vs (n + 1) (n + 1)))
    (hr : ∀ y, w.ownsRow base 3 1 (vs y) (memTo Z (n + 1) y).length (nats (memTo Z (n + 1) y))) (hd : ∀ y y' g, y ≠ y' → (vs y).ownBlock = some g → (vs y').ownBlock ≠ some g) : LolAt base w v (classesL Z n) := by
  have hget : ∀ i u, (rowsL Z vs (n + 1) (n + 1))[i]? = some u → ∃ y, (headsL Z (n + 1) (n + 1))[i]? = some y ∧ vs y = u := fun i u hu => by
    unfold rowsL at hu
    rw [List.getElem?_map] at hu
    cases hq : (headsL Z (n + 1) (n + 1))[i]? with
    | none => rw [hq] at hu; cases hu
    | some y => rw [hq] at hu; exact ⟨y, hq, by simpa using hu⟩
  refine ⟨rowsL Z vs (n + 1) (n + 1), ?_, ?_, fun i u hu => ?_, fun i j u u' g hne hu hu' => ?_⟩
  · rw [classesL_eq]; simp [rowsL]
  · rw [classesL_eq, List.length_map]; exact h
  · obtain ⟨y, hy, rfl⟩ := hget i u hu
    have : (classesL Z n).getD i [] = memTo Z (n + 1) y := by
      rw [classesL_eq, List.getD_eq_getElem?_getD, List.getElem?_map, hy]; rfl
    rw [this]; exact hr y
  · obtain ⟨y, hy, rfl⟩ := hget i u hu
    obtain ⟨y', hy', rfl⟩ := hget j u' hu'
    refine hd y y' g (fun e => hne ?_)
    subst e
    exact (List.getElem?_inj (List.getElem?_eq_some_iff.1 hy).1 (headsL_nodup Z _ _)).1 (hy.trans hy'.symm)
theorem exec_append {P : Program} {ev : Operand → Value} {w w' : World} {o : Oper} {s x : Operand} {t : TypeId} {v u r : Value} (ho : o.op = .call { callee := .builtin .append, args := #[s, x], argTypes := #[t, t] })
    (hs : ev s = v) (hx : ev x = u) (hrun : (Builtin.append_ #[t, t] o.type #[v, u]).run P w = .ok r w') : (execOp ev o).run P w = .ok (.value r) w' := by
  unfold execOp
  simp only [ho, resolve, invoke, builtin, Sem.run_bind, Sem.run_pure, Result.andThen_ok, List.map_toArray, List.map_cons, List.map_nil, hs, hx, hrun]
end Go.Proofs.Ytapfihlgemejiaa
-- reduce.Few, plain: the round of a class, what is needed, the few bounds.
namespace Go.Proofs.Ytapfihlgemejiaa

/-- The rank of a clock in the class of 0. -/
def rankI (Z : List Int) (x : Nat) : Nat := if x = 0 then 0 else if cellN Z x 0 ≤ 1 ∧ cellN Z 0 x ≤ 1 then 1 else 2
/-- A class in the order in which its bounds go round: a stable sort by three ranks. -/
def roundL (Z : List Int) (c : List Nat) : List Nat :=
  if c.getD 0 0 = 0 then (c.filter fun x => rankI Z x = 0) ++ (c.filter fun x => rankI Z x = 1) ++ (c.filter fun x => rankI Z x = 2) else c
/-- The bounds of a class, round. -/
def roundPuts (Z : List Int) (l : List Nat) : List (Nat × Nat) :=
  (List.range l.length).filterMap fun k => if 1 < l.length ∧ (l.getD k 0 ≠ 0 ∨ cellN Z 0 (l.getD ((k + 1) % l.length) 0) ≠ 1) then some (l.getD k 0, l.getD ((k + 1) % l.length) 0) else none
def hd (c : List Nat) : Nat := c.getD 0 0
/-- Is the bound from a head to that of another class one of the few? -/
def neededB (Z : List Int) (i : Nat) (d : List Nat) (cls : List (List Nat)) : Bool :=
  decide (cellN Z i (hd d) ≠ 2147483647) && !(decide (i = 0) && d.any fun a => decide (cellN Z 0 a = 1)) &&
    !cls.any fun c => decide (hd c ≠ i) && decide (hd c ≠ hd d) && decide (wayI (cellN Z i (hd c)) (cellN Z (hd c) (hd d)) ≤ cellN Z i (hd d))
/-- The few bounds of a zone of n clocks: from, to. -/
def fewL (Z : List Int) (n : Nat) : List (Nat × Nat) :=
  (classesL Z n).flatMap (fun c => roundPuts Z (roundL Z c)) ++
    (classesL Z n).flatMap fun c => ((classesL Z n).filter fun d => decide (hd c ≠ hd d) && neededB Z (hd c) d (classesL Z n)).map fun d => (hd c, hd d)
end Go.Proofs.Ytapfihlgemejiaa
-- reduce.round: the rank of a clock.
namespace Go.Proofs.Ytapfihlgemejiaa
open Go.RowKit
set_option maxRecDepth 100000 in
set_option maxHeartbeats 1000000 in
theorem rank_any (b x g : Nat) (z : Zn) (w : World) (h : ZoneAt w b z) (hx : x ≤ z.n) (hr : Row w g 196 [.pointer (some ⟨b, 0, none⟩)]) :
    Calls Try.prog 172 #[.int .i64 x, .pointer (some ⟨g, 0, none⟩)] w fun e w' => e = .returned (.int .i64 (rankI z.Z x)) ∧ New w w' := by
  have c0 : w.cell? ⟨g, 0, none⟩ = some (.pointer (some ⟨b, 0, none⟩)) := hr.cell 0
  by_cases h0 : x = 0
  · subst h0
    go_enter Try.func172, Try.ntmps172
    go_wp2_with fail
    go_ret
    exact ⟨rfl, New.refl w⟩
  · have hxx : ((x : Int) == 0) = false := by simp; omega
    have A1 := Lib.hid (fun W (hn : New w W) => at_any b z x 0 W (h.new hn) hx (Nat.zero_le _))
    have A2 := Lib.hid (fun W (hn : New w W) => at_any b z 0 x W (h.new hn) (Nat.zero_le _) hx)
    have HR := Lib.hid hr
    clear hr h
    by_cases h1 : cellN z.Z x 0 ≤ 1
    · have h1' : gt z.Z (9 * x) ≤ 1 := by simpa [cellN] using h1
      by_cases h2 : cellN z.Z 0 x ≤ 1
      · have h2' : gt z.Z x ≤ 1 := by simpa [cellN] using h2
        have e : rankI z.Z x = 1 := by unfold rankI; rw [if_neg h0, if_pos ⟨h1, h2⟩]
        rw [e]
        go_enter Try.func172, Try.ntmps172
        go_wp2_with fail
        refine (A1.out _ (New.refl w)).mono ?_
        rintro e w1 ⟨rfl, hn1⟩
        have c1 : w1.cell? ⟨g, 0, none⟩ = some (.pointer (some ⟨b, 0, none⟩)) := (hn1.row HR.out).cell 0
        go_wp2_with fail
        refine (A2.out _ hn1).mono ?_
        rintro e w2 ⟨rfl, hn2⟩
        go_wp2_with fail
        go_ret
        exact ⟨rfl, hn1.trans hn2⟩
      · have h2' : ¬ gt z.Z x ≤ 1 := by simpa [cellN] using h2
        have e : rankI z.Z x = 2 := by unfold rankI; rw [if_neg h0, if_neg (fun h => h2 h.2)]
        rw [e]
        go_enter Try.func172, Try.ntmps172
        go_wp2_with fail
        refine (A1.out _ (New.refl w)).mono ?_
        rintro e w1 ⟨rfl, hn1⟩
        have c1 : w1.cell? ⟨g, 0, none⟩ = some (.pointer (some ⟨b, 0, none⟩)) := (hn1.row HR.out).cell 0
        go_wp2_with fail
        refine (A2.out _ hn1).mono ?_
        rintro e w2 ⟨rfl, hn2⟩
        go_wp2_with fail
        go_ret
        exact ⟨rfl, hn1.trans hn2⟩
    · have h1' : ¬ gt z.Z (9 * x) ≤ 1 := by simpa [cellN] using h1
      have e : rankI z.Z x = 2 := by unfold rankI; rw [if_neg h0, if_neg (fun h => h1 h.1)]
      rw [e]
      go_enter Try.func172, Try.ntmps172
      go_wp2_with fail
      refine (A1.out _ (New.refl w)).mono ?_
      rintro e w1 ⟨rfl, hn1⟩
      go_wp2_with fail
      go_ret
      exact ⟨rfl, hn1⟩
end Go.Proofs.Ytapfihlgemejiaa
