/- gnomonref25.Few. -/
import Derived.Test.YtapfihlgemejiaaQ8
namespace Go.Proofs.Ytapfihlgemejiaa
open Go.RowKit
theorem limRow_app2 (a b : List Lim) : limRow (a ++ b) = limRow a ++ limRow b := by simp [limRow]
/-- The document's Few on its way. -/
structure RF (w wr : World) (Z : List Int) (n : Nat) (vC v : Value) (lo : List (Nat × Nat)) : Prop where
  new : New w wr
  cls : LolAt w.heap.size wr vC (classesL Z n)
  out : wr.ownsRow w.heap.size 100 3 v lo.length (limRow (lo.map (limOf Z)))
section
variable {w wr wx w' : World} {Z : List Int} {n : Nat} {vC v v' : Value} {S : List (Nat × Nat)}
theorem RF.step (h : RF w wr Z n vC v S) (hn : New wr w') : RF w w' Z n vC v S := ⟨h.new.trans hn, h.cls.new hn, own_new h.out hn⟩
theorem RF.app {i j : Nat} {q : Int} (h : RF w wr Z n vC v S) (hn : New wr wx) (hg : wx.grownBy w' v.ownBlock) (hq : cellN Z i j = q)
    (ho : w'.ownsRow w.heap.size 100 3 v' (S.length + 1) (limRow (S.map (limOf Z)) ++ [.int .i64 i, .int .i64 j, .int .i32 q])) : RF w w' Z n vC v' (S ++ [(i, j)]) ∧ KeptT (fun t => t ≠ 100) wr w' := by
  have h1 := own_new h.out hn
  have hF := Fr.of_grown (S := fun k => v.ownBlock = some k) hg (fun k hk _ => hk)
  have hk : KeptT (fun t => t ≠ 100) wr w' := fun g cur t ht hg' => by
    have hlt := (Array.getElem?_eq_some_iff.1 hg').1
    have h2 := hn.block g hlt (fun e => e)
    refine (hF.block g (Nat.lt_of_lt_of_le hlt hn.size) (fun e => ?_)).trans h2
    obtain ⟨_, cur2, h3⟩ := own_row h.out e
    have := hg'.symm.trans h3
    simp only [Option.some.injEq, Obj.cells.injEq] at this
    exact ht this.2.1
  refine ⟨⟨Fr.then (h.new.trans hn) hF (fun _ _ e => e) (fun k hk e => ?_), hk.lol h.cls (by decide) (by decide), ?_⟩, hk⟩
  · have := (own_row h.out e).1; omega
  · rw [List.map_append, limRow_app2, List.length_append]
    subst hq
    exact ho
end
/-- The classes, as the walk reads them: each row's head, each row. -/
theorem LolAt.at_ {base : Nat} {w : World} {A : Option Addr} {c n L : Nat} {ls : List (List Nat)} (h : LolAt base w (.slice A L c) ls) (hL : ls.length = L) (hok : ClsOk n ls) (h0 : 0 < L) :
    ∃ aC offC, A = some ⟨aC, offC, none⟩ ∧ ∀ k, k < L → ∃ gk ck nk, nk = (ls.getD k []).length ∧ 0 < nk ∧ nk ≤ 9 ∧ w.cell? ⟨aC, offC + k, none⟩ = some (.slice (some ⟨gk, 0, none⟩) nk ck) ∧
      w.cell? ⟨gk, 0, none⟩ = some (.int .i64 (hd (ls.getD k []))) ∧ w.ownsRow base 3 1 (.slice (some ⟨gk, 0, none⟩) nk ck) nk (nats (ls.getD k [])) := by
  subst hL
  obtain ⟨vs, ⟨a, off, hA, hc⟩, hr⟩ := h.reads h0
  refine ⟨a, off, hA, fun k hk => ?_⟩
  obtain ⟨o1, o2, _⟩ := hok.2 k hk
  have hown := hr k hk
  obtain ⟨A', c', hv⟩ := own_form hown
  rw [hv] at hown
  obtain ⟨g, hg, _, _, hcc, _⟩ := own_cell hown (by rw [nats_length]; exact o1)
  subst hg
  exact ⟨g, c', _, rfl, o1, o2, by rw [hc w (New.refl w) k hk, hv], hcc 0 _ (nats_get _ 0 o1), hown⟩
set_option maxRecDepth 100000 in
set_option maxHeartbeats 400000 in
theorem rfew_nil (w : World) : Calls Try.prog 69 #[.pointer none] w fun e w' => e = .returned (.tuple #[.slice none 0 0, .int .i64 1]) ∧ w = w' := by
  go_enter Try.func69, Try.ntmps69
  go_wp2
  go_ret2
  exact ⟨rfl, rfl⟩
set_option maxRecDepth 100000 in
set_option maxHeartbeats 400000 in
theorem rfew_empty (b : Nat) (z : Zn) (w : World) (h : RefAt w b z) (hz : gt z.Z 0 ≤ 1) (he : emptyB z.Z = true) :
    Calls Try.prog 69 #[.pointer (some ⟨b, 0, none⟩)] w fun e w' => ∃ v, e = .returned (.tuple #[v, .int .i64 0]) ∧ w'.ownsRow w.heap.size 100 3 v 1 (limRow [⟨0, 0, 0⟩]) ∧ New w w' := by
  have EM := Lib.hid (rempty_any b z w h hz)
  rw [he] at EM
  clear h he hz
  go_enter Try.func69, Try.ntmps69
  go_wp2_with fail
  refine EM.out.mono ?_
  rintro e w' ⟨rfl, rfl⟩
  go_wp2_with fail
  go_ret2
  refine ⟨_, rfl, ⟨rfl, .inr ⟨w.heap.size, 1, #[.int .i64 0, .int .i64 0, .int .i32 0], rfl, Nat.le_refl _, ?_, ?_, ?_, ?_, ?_⟩⟩, (New.refl w).alloc _⟩
  all_goals first | exact heap_alloc_new w _ | rfl | decide | simp
/-- The list of the bounds that are needed, up to a bound of the second head. -/
theorem pairRow_next {Z : List Int} {n a t : Nat} (h : ZCl n Z) (ha : a < (classesL Z n).length) (ht : t < (classesL Z n).length) :
    pairRow Z (classesL Z n) (hd ((classesL Z n).getD a [])) (t + 1) = pairRow Z (classesL Z n) (hd ((classesL Z n).getD a [])) t ++ if need25 Z (classesL Z n) a t = true then [(hd ((classesL Z n).getD a []), hd ((classesL Z n).getD t []))] else [] := by
  rw [pairRow_succ Z _ _ _ ht, h.need_eq ha ht]
  rfl
/-- What rules a class between the two out. -/
def mid25 (Z : List Int) (cls : List (List Nat)) (a b c : Nat) : Bool :=
  decide (c ≠ a) && decide (c ≠ b) && decide (plus25 (cellN Z (hd (cls.getD a [])) (hd (cls.getD c []))) (cellN Z (hd (cls.getD c [])) (hd (cls.getD b []))) ≤ cellN Z (hd (cls.getD a [])) (hd (cls.getD b [])))
def stop25 (Z : List Int) (cls : List (List Nat)) (a b : Nat) : Bool :=
  decide (a = b) || decide (cellN Z (hd (cls.getD a [])) (hd (cls.getD b [])) = INF) || (decide (hd (cls.getD a []) = 0) && (cls.getD b []).any fun x => decide (cellN Z 0 x = 1))
theorem need25_form (Z : List Int) (cls : List (List Nat)) (a b : Nat) : need25 Z cls a b = (!stop25 Z cls a b && !(List.range cls.length).any (mid25 Z cls a b)) := rfl
theorem any_range_succ (p : Nat → Bool) (k : Nat) : (List.range (k + 1)).any p = ((List.range k).any p || p k) := by
  rw [List.range_succ, List.any_append]; simp
theorem roundPuts_one {Z : List Int} {l : List Nat} (h : ¬ 1 < l.length) : roundPuts Z l = [] := by
  unfold roundPuts
  rw [List.filterMap_eq_nil_iff]
  intro k _
  rw [if_neg (fun e => h e.1)]
set_option maxRecDepth 100000 in
set_option maxHeartbeats 16000000 in
theorem rfew_any (b : Nat) (z : Zn) (w : World) (h : RefAt w b z) (hz : ZCl z.n z.Z) :
    Calls Try.prog 69 #[.pointer (some ⟨b, 0, none⟩)] w fun e w' => ∃ v, e = .returned (.tuple #[v, .int .i64 0]) ∧ w'.ownsRow w.heap.size 100 3 v (fewL z.Z z.n).length (limRow ((fewL z.Z z.n).map (limOf z.Z))) ∧ New w w' := by
  obtain ⟨i0, hi0, hz0, hz1, hz2⟩ := info_parts infoOf100
  have EM := Lib.hid (fun W (hn : New w W) => rempty_any b z W (h.new hn) (ZGood.le1 ⟨hz.dim, .inr hz⟩))
  rw [hz.not_empty] at EM
  have CL := Lib.hid (fun W (hn : New w W) => rclasses_any b z W (h.new hn) hz)
  have OR := Lib.hid (fun W (hn : New w W) A cap c hO h0 h9 hle => rordered_any b z A cap c W w.heap.size (h.new hn) hO hn.size h0 h9 hle)
  have FRE := Lib.hid (fun W (hn : New w W) A cap c hA h9 hle => rfree_any b z A cap c W (h.new hn) hA h9 hle)
  have CE := Lib.hid (fun W (hn : New w W) i j (hi : i ≤ z.n) (hj : j ≤ z.n) => rcel_any b z i j W (h.new hn) hi hj)
  have HOK := Lib.hid (classesL_ok z.Z z.n h.dim)
  have hdim := h.dim
  have HZ := Lib.hid hz
  have HE := Lib.hid (fewL_eq z.Z z.n)
  clear h hz
  go_enter Try.func69, Try.ntmps69
  go_wp2_with fail
  refine (EM.out _ (New.refl w)).mono ?_
  rintro e w' ⟨rfl, rfl⟩
  go_wp2_with fail
  refine (CL.out _ (New.refl w)).mono ?_
  rintro e w1 ⟨vC, rfl, hlol, hn1⟩
  obtain ⟨m, hm⟩ : ∃ m, (classesL z.Z z.n).length = m := ⟨_, rfl⟩
  have hm9 : m ≤ 9 := hm ▸ HOK.out.1
  have hm0 : 0 < m := hm ▸ classesL_pos z.Z z.n
  obtain ⟨A, cap, hvC⟩ := hlol.form
  rw [hm] at hvC
  subst hvC
  obtain ⟨aC, offC, hA, _⟩ := hlol.at_ hm HOK.out hm0
  subst hA
  have HR1 := Lib.hid (show RF w w1 z.Z z.n (.slice (some ⟨aC, offC, none⟩) m cap) (.slice none 0 0) (putsTo z.Z (classesL z.Z z.n) 0) from ⟨hn1, hlol, World.ownsRow_nil _ _ _ _⟩)
  have HM := Lib.hid hm
  have HAT := Lib.hid (fun (W : World) (hl : LolAt w.heap.size W (.slice (some ⟨aC, offC, none⟩) m cap) (classesL z.Z z.n)) k (hk : k < m) => (show ∃ gk ck nk, nk = ((classesL z.Z z.n).getD k []).length ∧ 0 < nk ∧ nk ≤ 9 ∧ W.cell? ⟨aC, offC + k, none⟩ = some (.slice (some ⟨gk, 0, none⟩) nk ck) ∧
      W.cell? ⟨gk, 0, none⟩ = some (.int .i64 (hd ((classesL z.Z z.n).getD k []))) ∧ W.ownsRow w.heap.size 3 1 (.slice (some ⟨gk, 0, none⟩) nk ck) nk (nats ((classesL z.Z z.n).getD k [])) from by
    obtain ⟨a, off, e, hat⟩ := hl.at_ HM.out HOK.out hm0
    cases e
    exact hat k hk))
  clear hm hlol hn1 CL EM
  go_wp2_with fail
  go_loopw [6, 7] (fun v ci wr => ∃ k : Nat, k ≤ m ∧ ci = .int .i64 k ∧ Hid (RF w wr z.Z z.n (.slice (some ⟨aC, offC, none⟩) m cap) v (putsTo z.Z (classesL z.Z z.n) k)))
    (fun _ cn _ => m - (intOf cn).toNat)
  case atStart => exact ⟨0, Nat.zero_le _, by go_num, HR1⟩
  case round =>
    obtain ⟨k, hk, rfl, R⟩ := hrel
    by_cases hlt : k < m
    · have hltz : (k : Int) < m := by omega
      obtain ⟨gk, ck, nk, hnk, hnk0, hnk9, s0, _, hown⟩ := HAT.out _ R.out.cls k hlt
      have hkc : k < (classesL z.Z z.n).length := by rw [HM.out]; exact hlt
      have hoc := (HOK.out.2 k hkc).2.2
      have hps := putsTo_succ z.Z (classesL z.Z z.n) k hkc
      have hpl := putsTo_length z.Z (classesL z.Z z.n) (fun q hq => (HOK.out.2 q hq).2.1) k (by rw [HM.out]; exact hk)
      have heq := HZ.out.ordered_eq (clN_mem hkc)
      have hrl := roundL_length z.Z (clN z.Z z.n k)
      rw [show clN z.Z z.n k = (classesL z.Z z.n).getD k [] from rfl] at heq hrl
      rw [hnk] at hown
      have O1 := OR.out wr R.out.new (some ⟨gk, 0, none⟩) ck ((classesL z.Z z.n).getD k []) hown (by omega) (by omega) hoc
      rw [heq] at O1
      obtain ⟨l, hl⟩ : ∃ l, roundL z.Z ((classesL z.Z z.n).getD k []) = l := ⟨_, rfl⟩
      rw [← hnk] at O1 hrl
      rw [hl] at O1 hps hrl
      have hle : ∀ i, l.getD i 0 ≤ z.n := by rw [← hl]; exact roundL_le (Z := z.Z) hoc
      obtain ⟨S, hS⟩ : ∃ S, putsTo z.Z (classesL z.Z z.n) k = S := ⟨_, rfl⟩
      rw [hS] at R hps hpl
      have HPS := Lib.hid hps
      have O1 := Lib.hid O1
      have HRL := Lib.hid hrl
      have HLE := Lib.hid hle
      clear hown hoc hps heq hrl hl hle hS hnk hkc
      go_wp2_with fail
      refine O1.out.mono ?_
      rintro e w3 ⟨A3, c3, rfl, hel3, hn3⟩
      have HO3 := Lib.hid hel3
      have R3 := Lib.hid (R.out.step hn3)
      clear hel3 hn3 O1 R
      go_wp2_with fail
      go_loopw [6, 10] (fun v ci wr => ∃ t : Nat, t ≤ nk ∧ ci = .int .i64 t ∧ Hid (RF w wr z.Z z.n (.slice (some ⟨aC, offC, none⟩) m cap) v (S ++ rpTo z.Z l t)) ∧ Hid (wr.ownsRow w.heap.size 3 1 (.slice A3 nk c3) nk (nats l)))
        (fun _ cn _ => nk - (intOf cn).toNat)
      case atStart => exact ⟨0, Nat.zero_le _, by go_num, (by show RF _ _ _ _ _ _ _; rw [show rpTo z.Z l 0 = [] from rfl, List.append_nil]; exact R3.out), HO3⟩
      case round =>
        obtain ⟨t, ht, rfl, R, HOt⟩ := hrel
        by_cases h1 : 1 < nk
        · have h1z : (1 : Int) < (nk : Int) := by omega
          by_cases htl : t < nk
          · have htz : (t : Int) < nk := by omega
            obtain ⟨a3, hA3, _, _, hc3, _⟩ := own_cell HOt.out (by rw [nats_length, HRL.out]; omega)
            subst hA3
            have hmod : (t + 1) % nk < nk := Nat.mod_lt _ (by omega)
            have s1 := hc3 t _ (nats_get l t (by rw [HRL.out]; exact htl))
            have s2 := hc3 ((t + 1) % nk) _ (nats_get l ((t + 1) % nk) (by rw [HRL.out]; exact hmod))
            have hx := HLE.out t
            have hy := HLE.out ((t + 1) % nk)
            have hyes := rpTo_yes (Z := z.Z) (l := l) (t := t)
            have hno := rpTo_no (Z := z.Z) (l := l) (t := t)
            have hrl := rpTo_length z.Z l t
            rw [HRL.out] at hyes hno
            obtain ⟨r, hr⟩ : ∃ r, (t + 1) % nk = r := ⟨_, rfl⟩
            have hrem : ((t : Int) + 1) % (nk : Int) = (r : Int) := by rw [← hr]; push_cast; rfl
            have hrem2 : Int.tmod ((t : Int) + 1) (nk : Int) = (r : Int) := by rw [Int.tmod_eq_emod_of_nonneg (by omega)]; exact hrem
            rw [hr] at s2 hy hyes hno hmod
            have hrz : (r : Int) < (nk : Int) := by omega
            obtain ⟨x, hxe⟩ : ∃ x, l.getD t 0 = x := ⟨_, rfl⟩
            obtain ⟨y, hye⟩ : ∃ y, l.getD r 0 = y := ⟨_, rfl⟩
            rw [hxe] at s1 hx hyes hno
            rw [hye] at s2 hy hyes hno
            obtain ⟨q, hq⟩ : ∃ q, cellN z.Z x y = q := ⟨_, rfl⟩
            have hyes2 : x ≠ 0 ∨ q ≠ 1 → rpTo z.Z l (t + 1) = rpTo z.Z l t ++ [(x, y)] := fun hh => hyes ⟨h1, by
              rcases hh with e | e
              · exact .inl e
              · by_cases e0 : x = 0
                · subst e0; exact .inr (by rw [hq]; exact e)
                · exact .inl e0⟩
            have hno2 : x = 0 → q = 1 → rpTo z.Z l (t + 1) = rpTo z.Z l t := fun e0 e1 => hno (fun hh => by
              subst e0
              rcases hh.2 with e | e
              · exact e rfl
              · exact e (by rw [hq]; exact e1))
            have C1 := Lib.hid (fun W (hn : New wr W) => CE.out W (R.out.new.trans hn) x y hx hy)
            rw [show gt z.Z (9 * x + y) = q from hq] at C1
            have HYES := Lib.hid hyes2
            have HNO := Lib.hid hno2
            have HQ_q := Lib.hid hq
            obtain ⟨T, hT⟩ : ∃ T, S ++ rpTo z.Z l t = T := ⟨_, rfl⟩
            have hTl : T.length ≤ 99 := by rw [← hT, List.length_append]; omega
            rw [hT] at R
            have HT := Lib.hid hT
            clear hc3 hyes hno hrl hr hxe hye hq hx hy hyes2 hno2 hmod hT
            go_wp2_with fail
            go_quiet (fail)
            generalize hwq : wr.drewN nq = wq
            have hqd : Drew wr wq := ⟨nq, hwq.symm⟩
            have C2 := Lib.hid (C1.out wq hqd.new)
            have HNq := Lib.hid hqd.new
            clear hqd hwq s1 s2 C1
            go_wp2_with fail
            refine C2.out.mono ?_
            rintro e w4 ⟨rfl, hd4⟩
            have HN4 := Lib.hid (HNq.out.trans hd4.new)
            clear hd4 C2 HNq
            by_cases hx0 : x = 0
            · have hxz : ((x : Int) != 0) = false := by simp; omega
              have HX0 := Lib.hid hx0
              clear hx0
              by_cases hq1 : q = 1
              · have hqz : (q != 1) = false := by simp [hq1]
                have HQ1 := Lib.hid hq1
                clear hq1
                go_wp2_with fail
                refine ⟨⟨t + 1, by omega, by go_num, (by show RF _ _ _ _ _ _ _; rw [HNO.out HX0.out HQ1.out, HT.out]; exact R.out.step HN4.out), own_new HOt.out HN4.out⟩, by simp [intOf] <;> omega⟩
              · have hqz : (q != 1) = true := by simp [hq1]
                have HQ1 := Lib.hid hq1
                clear hq1
                have hN5 := (New.refl w4).alloc (.cells #[.int .i64 (x : Int), .int .i64 (y : Int), .int .i32 q] 100)
                have HOWN := Lib.hid (own_new R.out.out (HN4.out.trans hN5))
                have HEL := Lib.hid (elems_news w4 100 [.int .i64 (x : Int), .int .i64 (y : Int), .int .i32 q])
                have HSZ := Lib.hid ((R.out.new.trans (HN4.out.trans hN5)).size)
                have HN5 := Lib.hid (HN4.out.trans hN5)
                clear hN5
                go_wp2_with (at_builtin; (refine wpList_append_elems rfl _ _ 113 rfl w.heap.size 100 i0 (.agg #[.int .i64 0, .int .i64 0, .int .i32 0]) 3 24 Try.underlying113 hi0 hz0 hz1 hz2 rfl (by decide) _ T.length _ (by rfl) HOWN.out _ _ 1 1 _ (by rfl) HEL.out rfl ?c1 ?c2 ?c3 HSZ.out ?_))
                case c1 => first | exact ⟨rfl, rfl, rfl⟩ | (intro y hy; simp at hy; rcases hy with rfl | rfl | rfl <;> rfl)
                case c2 => unfold maxLen; omega
                case c3 => omega
                intro v' w' ho' hg' hb'
                obtain ⟨A9, c9, hv9⟩ := own_form ho'
                subst hv9
                obtain ⟨r5, k5⟩ := R.out.app HN5.out hg' HQ_q.out ho'
                have R5 := Lib.hid r5
                have K5 := Lib.hid k5
                clear ho' hg' hb' r5 k5
                go_wp2_with fail
                refine ⟨⟨t + 1, by omega, by go_num, (by show RF _ _ _ _ _ _ _; rw [HYES.out (.inr HQ1.out), ← List.append_assoc, HT.out]; exact R5.out), K5.out.own HOt.out (by decide)⟩, by simp [intOf] <;> omega⟩
            · have hxz : ((x : Int) != 0) = true := by simp; omega
              have HX0 := Lib.hid hx0
              clear hx0
              have hN5 := (New.refl w4).alloc (.cells #[.int .i64 (x : Int), .int .i64 (y : Int), .int .i32 q] 100)
              have HOWN := Lib.hid (own_new R.out.out (HN4.out.trans hN5))
              have HEL := Lib.hid (elems_news w4 100 [.int .i64 (x : Int), .int .i64 (y : Int), .int .i32 q])
              have HSZ := Lib.hid ((R.out.new.trans (HN4.out.trans hN5)).size)
              have HN5 := Lib.hid (HN4.out.trans hN5)
              clear hN5
              go_wp2_with (at_builtin; (refine wpList_append_elems rfl _ _ 113 rfl w.heap.size 100 i0 (.agg #[.int .i64 0, .int .i64 0, .int .i32 0]) 3 24 Try.underlying113 hi0 hz0 hz1 hz2 rfl (by decide) _ T.length _ (by rfl) HOWN.out _ _ 1 1 _ (by rfl) HEL.out rfl ?c1 ?c2 ?c3 HSZ.out ?_))
              case c1 => first | exact ⟨rfl, rfl, rfl⟩ | (intro y hy; simp at hy; rcases hy with rfl | rfl | rfl <;> rfl)
              case c2 => unfold maxLen; omega
              case c3 => omega
              intro v' w' ho' hg' hb'
              obtain ⟨A9, c9, hv9⟩ := own_form ho'
              subst hv9
              obtain ⟨r5, k5⟩ := R.out.app HN5.out hg' HQ_q.out ho'
              have R5 := Lib.hid r5
              have K5 := Lib.hid k5
              clear ho' hg' hb' r5 k5
              go_wp2_with fail
              refine ⟨⟨t + 1, by omega, by go_num, (by show RF _ _ _ _ _ _ _; rw [HYES.out (.inl HX0.out), ← List.append_assoc, HT.out]; exact R5.out), K5.out.own HOt.out (by decide)⟩, by simp [intOf] <;> omega⟩
          · have htz : ¬ (t : Int) < nk := by omega
            have HRP : Hid (roundPuts z.Z l = rpTo z.Z l t) := by show roundPuts z.Z l = rpTo z.Z l t; rw [← rpTo_all, HRL.out, show t = nk by omega]
            have HPS2 : Hid (RF w wr z.Z z.n (.slice (some ⟨aC, offC, none⟩) m cap) u6 (putsTo z.Z (classesL z.Z z.n) (k + 1))) := by show RF _ _ _ _ _ _ _; rw [HPS.out, HRP.out]; exact R.out
            go_wp2_with fail
            exact ⟨⟨k + 1, by omega, by go_num, HPS2⟩, by simp [intOf] <;> omega⟩
        · have h1z : ¬ (1 : Int) < (nk : Int) := by omega
          have hrpz : Hid (rpTo z.Z l t = []) := by
            show rpTo z.Z l t = []
            unfold rpTo
            rw [List.filterMap_eq_nil_iff]
            intro k _
            rw [if_neg (fun e => h1 (by rw [HRL.out] at e; exact e.1))]
          by_cases htl : t < nk
          · have htz : (t : Int) < nk := by omega
            have HRP : Hid (roundPuts z.Z l = rpTo z.Z l t) := by show roundPuts z.Z l = rpTo z.Z l t; rw [hrpz.out, roundPuts_one (by rw [HRL.out]; exact h1)]
            have HPS2 : Hid (RF w wr z.Z z.n (.slice (some ⟨aC, offC, none⟩) m cap) u6 (putsTo z.Z (classesL z.Z z.n) (k + 1))) := by show RF _ _ _ _ _ _ _; rw [HPS.out, HRP.out]; exact R.out
            go_wp2_with fail
            exact ⟨⟨k + 1, by omega, by go_num, HPS2⟩, by simp [intOf] <;> omega⟩
          · have htz : ¬ (t : Int) < nk := by omega
            have HRP : Hid (roundPuts z.Z l = rpTo z.Z l t) := by show roundPuts z.Z l = rpTo z.Z l t; rw [hrpz.out, roundPuts_one (by rw [HRL.out]; exact h1)]
            have HPS2 : Hid (RF w wr z.Z z.n (.slice (some ⟨aC, offC, none⟩) m cap) u6 (putsTo z.Z (classesL z.Z z.n) (k + 1))) := by show RF _ _ _ _ _ _ _; rw [HPS.out, HRP.out]; exact R.out
            go_wp2_with fail
            exact ⟨⟨k + 1, by omega, by go_num, HPS2⟩, by simp [intOf] <;> omega⟩
    · have hltz : ¬ (k : Int) < m := by omega
      have hke : k = m := by omega
      have R2 := R
      rw [hke] at R2
      clear R hke hk
      have hPm := putsTo_length z.Z (classesL z.Z z.n) (fun q hq => (HOK.out.2 q hq).2.1) m (by rw [HM.out]; exact Nat.le_refl _)
      obtain ⟨P, hP⟩ : ∃ P, putsTo z.Z (classesL z.Z z.n) m = P := ⟨_, rfl⟩
      rw [hP] at R2 hPm
      have HP := Lib.hid hP
      clear hP
      go_wp2_with fail
      go_loopw [6, 14] (fun v ci wr => ∃ a : Nat, a ≤ m ∧ ci = .int .i64 a ∧ Hid (RF w wr z.Z z.n (.slice (some ⟨aC, offC, none⟩) m cap) v (P ++ pairsTo z.Z (classesL z.Z z.n) a)))
        (fun _ cn _ => m - (intOf cn).toNat)
      case atStart => exact ⟨0, Nat.zero_le _, by go_num, (by show RF _ _ _ _ _ _ _; rw [show pairsTo z.Z (classesL z.Z z.n) 0 = [] from rfl, List.append_nil]; exact R2.out)⟩
      case round =>
        obtain ⟨a, ha, rfl, R⟩ := hrel
        by_cases halt : a < m
        · have haz : (a : Int) < m := by omega
          have hac : a < (classesL z.Z z.n).length := by rw [HM.out]; exact halt
          have hnx := pairsTo_succ z.Z (classesL z.Z z.n) a hac
          have hql := pairsTo_length z.Z (classesL z.Z z.n) HOK.out.1 a (by rw [HM.out]; exact ha)
          rw [HM.out] at hnx
          obtain ⟨Q, hQ⟩ : ∃ Q, P ++ pairsTo z.Z (classesL z.Z z.n) a = Q := ⟨_, rfl⟩
          have hQl : Q.length ≤ 162 := by rw [← hQ, List.length_append]; omega
          have hnx2 : P ++ pairsTo z.Z (classesL z.Z z.n) (a + 1) = Q ++ pairRow z.Z (classesL z.Z z.n) (hd ((classesL z.Z z.n).getD a [])) m := by rw [hnx, ← List.append_assoc, hQ]
          rw [hQ] at R
          have HNX2 := Lib.hid hnx2
          have HAC := Lib.hid hac
          clear hnx hql hQ hnx2 hac
          go_wp2_with fail
          go_loopw [6, 15] (fun v ci wr => ∃ t : Nat, t ≤ m ∧ ci = .int .i64 t ∧ Hid (RF w wr z.Z z.n (.slice (some ⟨aC, offC, none⟩) m cap) v (Q ++ pairRow z.Z (classesL z.Z z.n) (hd ((classesL z.Z z.n).getD a [])) t)))
            (fun _ cn _ => m - (intOf cn).toNat)
          case atStart => exact ⟨0, Nat.zero_le _, by go_num, (by show RF _ _ _ _ _ _ _; rw [show pairRow z.Z (classesL z.Z z.n) (hd ((classesL z.Z z.n).getD a [])) 0 = [] from rfl, List.append_nil]; exact R.out)⟩
          case round =>
            obtain ⟨t, ht, rfl, R⟩ := hrel
            by_cases htl : t < m
            · have htz : (t : Int) < m := by omega
              have htc : t < (classesL z.Z z.n).length := by rw [HM.out]; exact htl
              obtain ⟨ga, ca, na, hna, hna0, hna9, s0, s1, hna1⟩ := HAT.out _ R.out.cls a halt
              clear hna hna1
              obtain ⟨gb, cb, nb, hnb, hnb0, hnb9, s2, s3, hownb⟩ := HAT.out _ R.out.cls t htl
              have hnp := pairRow_next HZ.out HAC.out htc
              rw [need25_form, HM.out] at hnp
              have hprl := pairRow_length z.Z (classesL z.Z z.n) (hd ((classesL z.Z z.n).getD a [])) t
              have hx : hd ((classesL z.Z z.n).getD a []) ≤ z.n := (HOK.out.2 a HAC.out).2.2 0
              have hy : hd ((classesL z.Z z.n).getD t []) ≤ z.n := (HOK.out.2 t htc).2.2 0
              have hmid : ∀ c, c < m → ∃ gc cc nc, (∀ W, New wr W → W.cell? ⟨aC, offC + c, none⟩ = some (.slice (some ⟨gc, 0, none⟩) nc cc) ∧ 0 < nc ∧ W.cell? ⟨gc, 0, none⟩ = some (.int .i64 (hd ((classesL z.Z z.n).getD c [])))) ∧ hd ((classesL z.Z z.n).getD c []) ≤ z.n := fun c hc => by
                obtain ⟨gc, cc, nc, h1, h2, h3, h4, h5, h6⟩ := HAT.out _ R.out.cls c hc
                refine ⟨gc, cc, nc, fun W hW => ?_, (HOK.out.2 c (by rw [HM.out]; exact hc)).2.2 0⟩
                obtain ⟨gc', cc', nc', e1, e2, e3, e4, e5, e6⟩ := HAT.out _ (R.out.cls.new hW) c hc
                have hblk : ∀ {p : Addr} {u : Value}, wr.cell? p = some u → W.cell? p = some u := fun {p u} hp => by
                  have hlt := (spot_of_cell hp).2
                  rw [World.cell?_of_block (w := wr) (hW.block p.block hlt (fun e => e))]; exact hp
                exact ⟨hblk h4, h2, hblk h5⟩
              have hst : stop25 z.Z (classesL z.Z z.n) a t = (decide (a = t) || decide (cellN z.Z (hd ((classesL z.Z z.n).getD a [])) (hd ((classesL z.Z z.n).getD t [])) = INF) || (decide (hd ((classesL z.Z z.n).getD a []) = 0) && ((classesL z.Z z.n).getD t []).any fun x => decide (cellN z.Z 0 x = 1))) := rfl
              have FR := FRE.out
              have hmd : ∀ c, mid25 z.Z (classesL z.Z z.n) a t c = (decide (c ≠ a) && decide (c ≠ t) && decide (plus25 (cellN z.Z (hd ((classesL z.Z z.n).getD a [])) (hd ((classesL z.Z z.n).getD c []))) (cellN z.Z (hd ((classesL z.Z z.n).getD c [])) (hd ((classesL z.Z z.n).getD t []))) ≤ cellN z.Z (hd ((classesL z.Z z.n).getD a [])) (hd ((classesL z.Z z.n).getD t [])))) := fun c => rfl
              have hfree := fun W (hn : New wr W) => FRE.out W (R.out.new.trans hn) (some ⟨gb, 0, none⟩) cb ((classesL z.Z z.n).getD t []) (elems_of_own (own_new hownb hn)) (by omega) (HOK.out.2 t htc).2.2
              rw [← hnb] at hfree
              obtain ⟨fb, hfb⟩ : ∃ fb, (((classesL z.Z z.n).getD t []).any fun x => decide (cellN z.Z 0 x = 1)) = fb := ⟨_, rfl⟩
              rw [hfb] at hfree hst
              obtain ⟨x, hxe⟩ : ∃ x, hd ((classesL z.Z z.n).getD a []) = x := ⟨_, rfl⟩
              obtain ⟨y, hye⟩ : ∃ y, hd ((classesL z.Z z.n).getD t []) = y := ⟨_, rfl⟩
              rw [hxe] at s1 hx hnp hst hprl R
              simp only [hxe, hye] at hmd
              rw [hye] at s3 hy hnp hst
              have hrng := HZ.out.rng x y hx hy
              obtain ⟨q, hq⟩ : ∃ q, cellN z.Z x y = q := ⟨_, rfl⟩
              rw [hq] at hst hrng
              simp only [hq] at hmd
              have C1 := Lib.hid (fun W (hn : New wr W) => CE.out W (R.out.new.trans hn) x y hx hy)
              rw [show gt z.Z (9 * x + y) = q from hq] at C1
              have C2 := Lib.hid (fun W (hn : New wr W) c (hc : c ≤ z.n) => CE.out W (R.out.new.trans hn) x c hx hc)
              have C3 := Lib.hid (fun W (hn : New wr W) c (hc : c ≤ z.n) => CE.out W (R.out.new.trans hn) c y hc hy)
              have P2 := Lib.hid (fun c (hc : c ≤ z.n) W => rplus25_any (gt z.Z (9 * x + c)) (gt z.Z (9 * c + y)) W (HZ.out.rng x c hx hc) (HZ.out.rng c y hc hy))
              have FR2 := Lib.hid hfree
              have HQ_q := Lib.hid hq
              have HXE := Lib.hid hxe
              obtain ⟨T, hT⟩ : ∃ T, Q ++ pairRow z.Z (classesL z.Z z.n) x t = T := ⟨_, rfl⟩
              have hTl : T.length ≤ 171 := by rw [← hT, List.length_append]; omega
              rw [hT] at R
              obtain ⟨st, hstE⟩ : ∃ st, stop25 z.Z (classesL z.Z z.n) a t = st := ⟨_, rfl⟩
              rw [hstE] at hst hnp
              have hnp2 : ∀ nb, (!st && !(List.range m).any (mid25 z.Z (classesL z.Z z.n) a t)) = nb → Q ++ pairRow z.Z (classesL z.Z z.n) (hd ((classesL z.Z z.n).getD a [])) (t + 1) = T ++ if nb = true then [(x, y)] else [] := fun nb hnb => by
                rw [hxe, hnp, hnb, ← List.append_assoc, hT]
              have HNP := Lib.hid hnp2
              have HST := Lib.hid hst
              have HMD := Lib.hid hmd
              have HMID := Lib.hid hmid
              have hinf : q ≤ 2147483647 ∧ -2147483648 ≤ q := by
                rcases hrng with e | e
                · unfold INF at e; omega
                · omega
              have hwq : IntKind.i64.wrap q = q := by rw [IntKind.wrap_i64]; omega
              clear hnp hprl hx hy hmid hst FR hmd hfree hfb hxe hye hq hT hstE hnp2 hownb hnb hrng
              go_wp2_with fail
              go_quiet (fail)
              generalize hwq2 : wr.drewN nq = wq
              have hqd : Drew wr wq := ⟨nq, hwq2.symm⟩
              have D2 := Lib.hid (C1.out wq hqd.new)
              have HNq := Lib.hid hqd.new
              have s2 : wq.cell? ⟨aC, offC + t, none⟩ = some (.slice (some ⟨gb, 0, none⟩) nb cb) := by rw [← hwq2]; exact s2
              have s4 : ∀ W, Drew wq W → W.cell? ⟨aC, offC + t, none⟩ = some (.slice (some ⟨gb, 0, none⟩) nb cb) := fun W hW => by rw [← s2]; exact World.cell?_of_block (w := wq) (by rw [hW.heap])
              have S4 := Lib.hid s4
              clear hqd hwq2 s0 s1 s3 s4 C1
              go_wp2_with fail
              refine D2.out.mono ?_
              rintro e w4 ⟨rfl, hd4⟩
              have HN4 := Lib.hid (HNq.out.trans hd4.new)
              have s2 := S4.out w4 hd4
              clear hd4 D2 HNq S4
              go_upto_region 27 with fail
              go_cut [130] (fun v w2 => v = .bool st ∧ Hid (New wr w2))
              case first =>
                by_cases hat : a = t
                · have hab : ((a : Int) == (t : Int)) = true := by rw [hat]; simp
                  have HS : Hid (st = true) := by show st = true; rw [HST.out, decide_eq_true hat]; rfl
                  clear hat
                  go_wp2_with fail
                  (go_meet; case rel => exact ⟨by rw [HS.out], HN4⟩)
                · have hab : ((a : Int) == (t : Int)) = false := by simp; omega
                  have HAT2 := Lib.hid hat
                  clear hat
                  by_cases hqi : q = 2147483647
                  · have hqb : (q == 2147483647) = true := by simp [hqi]
                    have HS : Hid (st = true) := by show st = true; rw [HST.out, decide_eq_false HAT2.out, decide_eq_true (show q = INF from hqi)]; rfl
                    clear hqi
                    go_wp2_with fail
                    (go_meet; case rel => exact ⟨by rw [HS.out], HN4⟩)
                  · have hqb : (q == 2147483647) = false := by simpa using hqi
                    have HQI := Lib.hid hqi
                    clear hqi
                    by_cases hx0 : x = 0
                    · have hxb : ((x : Int) == 0) = true := by rw [hx0]; rfl
                      have HS : Hid (st = fb) := by show st = fb; rw [HST.out, decide_eq_false HAT2.out, decide_eq_false (show ¬ q = INF from HQI.out), decide_eq_true hx0]; rfl
                      have F2 := Lib.hid (FR2.out w4 HN4.out)
                      clear hx0
                      go_wp2_with fail
                      refine F2.out.mono ?_
                      rintro e w5 ⟨rfl, hn5⟩
                      have HN5 := Lib.hid (HN4.out.trans hn5)
                      clear hn5
                      go_wp2_with fail
                      (go_meet; case rel => exact ⟨by rw [HS.out], HN5⟩)
                    · have hxb : ((x : Int) == 0) = false := by simp; omega
                      have HS : Hid (st = false) := by show st = false; rw [HST.out, decide_eq_false HAT2.out, decide_eq_false (show ¬ q = INF from HQI.out), decide_eq_false hx0]; rfl
                      clear hx0
                      go_wp2_with fail
                      (go_meet; case rel => exact ⟨by rw [HS.out], HN4⟩)
              case rest =>
                obtain ⟨rfl, HNc⟩ := hcut
                clear s2
                cases st with
                | true =>
                  have HN2 := HNP.out false rfl
                  have HN3 := Lib.hid HN2
                  clear HN2
                  go_wp2_with fail
                  exact ⟨⟨t + 1, by omega, by go_num, (by show RF _ _ _ _ _ _ _; rw [HN3.out, if_neg (by decide), List.append_nil]; exact R.out.step HNc.out)⟩, by simp [intOf] <;> omega⟩
                | false =>
                  go_wp2_with fail
                  obtain ⟨wo, rfl⟩ : ∃ wo : World, wo = wr := ⟨_, rfl⟩
                  go_loopw [19, 20] (fun nv ci wr => ∃ c : Nat, c ≤ m ∧ ci = .int .i64 c ∧ nv = .bool (!(List.range c).any (mid25 z.Z (classesL z.Z z.n) a t)) ∧ Hid (New wo wr))
                    (fun _ cn _ => m - (intOf cn).toNat)
                  case atStart => exact ⟨0, Nat.zero_le _, by go_num, rfl, HNc⟩
                  case round =>
                    obtain ⟨c, hc, rfl, rfl, HNc⟩ := hrel
                    by_cases hcl : c < m
                    · have hcz : (c : Int) < m := by omega
                      obtain ⟨gc, cc, nc, hrd, hcn⟩ := HMID.out c hcl
                      obtain ⟨s0, hnc0, s1⟩ := hrd wr HNc.out
                      have hmdc := HMD.out c
                      obtain ⟨k, hke⟩ : ∃ k, hd ((classesL z.Z z.n).getD c []) = k := ⟨_, rfl⟩
                      rw [hke] at s1 hcn hmdc
                      obtain ⟨an, han⟩ : ∃ an, (List.range c).any (mid25 z.Z (classesL z.Z z.n) a t) = an := ⟨_, rfl⟩
                      have hans := any_range_succ (mid25 z.Z (classesL z.Z z.n) a t) c
                      rw [han] at hans ⊢
                      obtain ⟨mc, hmc⟩ : ∃ mc, mid25 z.Z (classesL z.Z z.n) a t c = mc := ⟨_, rfl⟩
                      rw [hmc] at hans hmdc
                      have E1 := Lib.hid (fun W (hn : New wo W) => C2.out W hn k hcn)
                      have E2 := Lib.hid (fun W (hn : New wo W) => C3.out W hn k hcn)
                      have E3 := Lib.hid (fun W => P2.out k hcn W)
                      rw [show cellN z.Z x k = gt z.Z (9 * x + k) from rfl, show cellN z.Z k y = gt z.Z (9 * k + y) from rfl] at hmdc
                      generalize gt z.Z (9 * x + k) = p1 at *
                      generalize gt z.Z (9 * k + y) = p2 at *
                      obtain ⟨s, hs⟩ : ∃ s, plus25 p1 p2 = s := ⟨_, rfl⟩
                      rw [hs] at E3 hmdc
                      have HANS := Lib.hid hans
                      have HMDC := Lib.hid hmdc
                      clear hrd hmdc hke han hans hmc hs hcn
                      go_upto_region 33 with fail
                      go_cut [164] (fun v w2 => v = .bool mc ∧ Hid (New wo w2))
                      case first =>
                        by_cases hca : c = a
                        · have hcb : ((c : Int) != (a : Int)) = false := by simp [hca]
                          have HS : Hid (mc = false) := by show mc = false; rw [HMDC.out, decide_eq_false (fun e => e hca)]; rfl
                          clear hca
                          go_wp2_with fail
                          (go_meet; case rel => exact ⟨by rw [HS.out], HNc⟩)
                        · have hcb : ((c : Int) != (a : Int)) = true := by simp; omega
                          have HCA := Lib.hid hca
                          clear hca
                          by_cases hct : c = t
                          · have hctb : ((c : Int) != (t : Int)) = false := by simp [hct]
                            have HS : Hid (mc = false) := by show mc = false; rw [HMDC.out, decide_eq_false (p := c ≠ t) (fun e => e hct)]; simp
                            clear hct
                            go_wp2_with fail
                            (go_meet; case rel => exact ⟨by rw [HS.out], HNc⟩)
                          · have hctb : ((c : Int) != (t : Int)) = true := by simp; omega
                            have HS : Hid (mc = decide (s ≤ q)) := by show mc = decide (s ≤ q); rw [HMDC.out, decide_eq_true HCA.out, decide_eq_true hct]; rfl
                            clear hct
                            go_wp2_with fail
                            refine (E1.out _ HNc.out).mono ?_
                            rintro e w5 ⟨rfl, hd5⟩
                            have HN5 := Lib.hid (HNc.out.trans hd5.new)
                            clear hd5
                            go_wp2_with fail
                            refine (E2.out _ HN5.out).mono ?_
                            rintro e w6 ⟨rfl, hd6⟩
                            have HN6 := Lib.hid (HN5.out.trans hd6.new)
                            clear hd6
                            go_wp2_with fail
                            refine (E3.out _).mono ?_
                            rintro e w' ⟨rfl, rfl⟩
                            go_wp2_with fail
                            (go_meet; case rel => exact ⟨by rw [HS.out], HN6⟩)
                      case rest =>
                        obtain ⟨rfl, HNc⟩ := hcut
                        cases mc with
                        | true =>
                          have HA2 : Hid ((List.range (c + 1)).any (mid25 z.Z (classesL z.Z z.n) a t) = true) := by show _ = _; rw [HANS.out]; simp
                          go_wp2_with fail
                          exact ⟨⟨c + 1, by omega, by go_num, (by rw [HA2.out]; rfl), HNc⟩, by simp [intOf] <;> omega⟩
                        | false =>
                          have HA2 : Hid ((List.range (c + 1)).any (mid25 z.Z (classesL z.Z z.n) a t) = an) := by show _ = _; rw [HANS.out]; simp
                          go_wp2_with fail
                          exact ⟨⟨c + 1, by omega, by go_num, (by rw [HA2.out]), HNc⟩, by simp [intOf] <;> omega⟩
                    · have hcz : ¬ (c : Int) < m := by omega
                      have hce : c = m := by omega
                      have HN2 := HNP.out _ rfl
                      rw [Bool.not_false, Bool.true_and, ← hce] at HN2
                      obtain ⟨an, han⟩ : ∃ an, (List.range c).any (mid25 z.Z (classesL z.Z z.n) a t) = an := ⟨_, rfl⟩
                      rw [han] at HN2 ⊢
                      have HN3 := Lib.hid HN2
                      clear HN2 han hce
                      cases an with
                      | true =>
                        go_wp2_with fail
                        exact ⟨⟨t + 1, by omega, by go_num, (by show RF _ _ _ _ _ _ _; rw [HN3.out, Bool.not_true, if_neg (by decide), List.append_nil]; exact R.out.step HNc.out)⟩, by simp [intOf] <;> omega⟩
                      | false =>
                        have hN5 := (New.refl wr).alloc (.cells #[.int .i64 (x : Int), .int .i64 (y : Int), .int .i32 q] 100)
                        have HOWN := Lib.hid (own_new R.out.out (HNc.out.trans hN5))
                        have HEL := Lib.hid (elems_news wr 100 [.int .i64 (x : Int), .int .i64 (y : Int), .int .i32 q])
                        have HSZ := Lib.hid ((R.out.new.trans (HNc.out.trans hN5)).size)
                        have HN5 := Lib.hid (HNc.out.trans hN5)
                        clear hN5
                        go_wp2_with (at_builtin; (refine wpList_append_elems rfl _ _ 113 rfl w.heap.size 100 i0 (.agg #[.int .i64 0, .int .i64 0, .int .i32 0]) 3 24 Try.underlying113 hi0 hz0 hz1 hz2 rfl (by decide) _ T.length _ (by rfl) HOWN.out _ _ 1 1 _ (by rfl) HEL.out rfl ?c1 ?c2 ?c3 HSZ.out ?_))
                        case c1 => first | exact ⟨rfl, rfl, rfl⟩ | (intro y hy; simp at hy; rcases hy with rfl | rfl | rfl <;> rfl)
                        case c2 => unfold maxLen; omega
                        case c3 => omega
                        intro v' w' ho' hg' hb'
                        obtain ⟨A9, c9, hv9⟩ := own_form ho'
                        subst hv9
                        obtain ⟨r5, k5⟩ := R.out.app HN5.out hg' HQ_q.out ho'
                        have R5 := Lib.hid r5
                        have K5 := Lib.hid k5
                        clear ho' hg' hb' r5 k5
                        go_wp2_with fail
                        exact ⟨⟨t + 1, by omega, by go_num, (by show RF _ _ _ _ _ _ _; rw [HN3.out, Bool.not_false, if_pos rfl]; exact R5.out)⟩, by simp [intOf] <;> omega⟩
            · have htz : ¬ (t : Int) < m := by omega
              have hte : t = m := by omega
              have R5 : Hid (RF w wr z.Z z.n (.slice (some ⟨aC, offC, none⟩) m cap) u6 (P ++ pairsTo z.Z (classesL z.Z z.n) (a + 1))) := by rw [hte] at R; show RF _ _ _ _ _ _ _; rw [HNX2.out]; exact R.out
              clear hte R
              go_wp2_with fail
              exact ⟨⟨a + 1, by omega, by go_num, R5⟩, by simp [intOf] <;> omega⟩
        · have haz : ¬ (a : Int) < m := by omega
          have hae : a = m := by omega
          have h1 := R.out.out
          rw [hae, ← HP.out, ← HM.out, ← HE.out] at h1
          have HO := Lib.hid h1
          clear h1 hae
          go_wp2_with fail
          go_ret2
          exact ⟨_, rfl, HO.out, R.out.new⟩
end Go.Proofs.Ytapfihlgemejiaa
