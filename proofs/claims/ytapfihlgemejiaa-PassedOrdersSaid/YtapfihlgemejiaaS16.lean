/- Walks over package gnomonlaw16: PassedOrders. -/
import Derived.Test.YtapfihlgemejiaaS12
import Derived.Test.YtapfihlgemejiaaS9
import Derived.Test.YtapfihlgemejiaaA6
import Derived.Test.YtapfihlgemejiaaD6
namespace Go.Proofs.Ytapfihlgemejiaa
open Go.RowKit

/-- A step, and where its lists lie. -/
structure StpM where
  x : Stp
  kA : Option Addr
  kc : Nat
  cA : Option Addr
  cc : Nat
def stpCells (m : StpM) : List Value := [.int .i64 m.x.kind, .slice m.kA m.x.key.length m.kc, .int .i64 m.x.n, .slice m.cA m.x.cells.length m.cc]
def stpRow (l : List StpM) : List Value := l.flatMap stpCells
structure StpMOk (w : World) (B : Nat) (m : StpM) : Prop where
  key : Elems w B m.kA (m.x.key.map (Value.int .u8))
  cells : Elems w B m.cA (m.x.cells.map (Value.int .i32))
  bytes : Bytes m.x.key
  len : m.x.key.length ≤ 140737488355328
theorem stpCells_one (m : StpM) : ∀ u ∈ stpCells m, u.oneCell' = true := by
  intro u hu
  simp only [stpCells, List.mem_cons, List.not_mem_nil, or_false] at hu
  rcases hu with rfl | rfl | rfl | rfl <;> rfl
theorem stpRow_snoc (l : List StpM) (m : StpM) : stpRow (l ++ [m]) = stpRow l ++ stpCells m := by simp [stpRow]
theorem stpRow_get (l : List StpM) (i : Nat) (m : StpM) (h : l[i]? = some m) (k : Nat) (hk : k < 4) : (stpRow l)[i * 4 + k]? = (stpCells m)[k]? := by
  induction l generalizing i with
  | nil => simp at h
  | cons e l ih =>
    have e1 : stpRow (e :: l) = stpCells e ++ stpRow l := rfl
    rw [e1]
    cases i with
    | zero =>
      simp only [List.getElem?_cons_zero, Option.some.injEq] at h
      subst h
      rw [List.getElem?_append_left (by simp [stpCells]; omega)]
      simp
    | succ i =>
      rw [List.getElem?_append_right (by simp [stpCells]; omega)]
      have : (i + 1) * 4 + k - (stpCells e).length = i * 4 + k := by simp [stpCells]; omega
      rw [this]
      exact ih i (by simpa using h)
theorem stps_of_own {w : World} {base : Nat} {A : Option Addr} {c : Nat} {ms : List StpM} (h : w.ownsRow base 42 4 (.slice A ms.length c) ms.length (stpRow ms)) (hok : ∀ m ∈ ms, StpMOk w w.heap.size m) (hlen : ms.length ≤ 2199023255552) :
    StpsAt w w.heap.size A (ms.map (·.x)) := by
  refine ⟨by simpa using hlen, fun i x hx => ?_⟩
  rw [List.getElem?_map] at hx
  cases hm : ms[i]? with
  | none => rw [hm] at hx; cases hx
  | some m =>
    rw [hm] at hx
    simp only [Option.map_some, Option.some.injEq] at hx
    subst hx
    have hget := fun k hk => stpRow_get ms i m hm k hk
    have hlt : i < ms.length := (List.getElem?_eq_some_iff.1 hm).1
    obtain ⟨g, rfl, _, hg, hc, _⟩ := own_cell h (by
      have h0 := hget 0 (by omega)
      have : (stpCells m)[0]? = some (.int .i64 m.x.kind) := rfl
      rw [this] at h0
      have := (List.getElem?_eq_some_iff.1 h0).1
      omega)
    have hm2 := hok m (List.mem_of_getElem? hm)
    refine ⟨g, 0, rfl, hg, ?_⟩
    rw [Nat.zero_add]
    exact ⟨hc (i * 4) _ (hget 0 (by omega)), ⟨m.kA, m.kc, hc _ _ (hget 1 (by omega)), hm2.key⟩, hc _ _ (hget 2 (by omega)), ⟨m.cA, m.cc, hc _ _ (hget 3 (by omega)), hm2.cells⟩, hm2.bytes, hm2.len⟩
theorem StpMOk.below {w w' : World} {B : Nat} {m : StpM} (h : StpMOk w B m) (hb : Below B w w') : StpMOk w' B m := ⟨h.key.below hb, h.cells.below hb, h.bytes, h.len⟩
theorem StpsAt.mono {w : World} {B B' : Nat} {A : Option Addr} {l : List Stp} (h : StpsAt w B A l) (hb : B ≤ B') : StpsAt w B' A l :=
  ⟨h.1, fun i x hx => by
    obtain ⟨b, o, e, hbb, hs⟩ := h.2 i x hx
    obtain ⟨kA, kc, k1, k2⟩ := hs.key
    obtain ⟨cA, cc, k3, k4⟩ := hs.cells
    exact ⟨b, o, e, by omega, hs.kind, ⟨kA, kc, k1, k2.mono hb⟩, hs.num, ⟨cA, cc, k3, k4.mono hb⟩, hs.bytes, hs.len⟩⟩
theorem putsOf_drop {l : List Stp} {k : Nat} {x : Stp} (h : l[k]? = some x) : putsOf (l.drop k) = if x.kind = 0 then x :: putsOf (l.drop (k + 1)) else putsOf (l.drop (k + 1)) := by
  obtain ⟨hk, he⟩ := List.getElem?_eq_some_iff.1 h
  rw [List.drop_eq_getElem_cons hk, he]
  unfold putsOf
  rw [List.filter_cons]
  by_cases h0 : x.kind = 0
  · rw [if_pos h0, if_pos (by simpa using h0)]
  · rw [if_neg h0, if_neg (by simpa using h0)]
theorem infoOf42 : (Try.prog.info? 42).map (fun i => (i.zero, i.size, i.bytes)) = some (some (.agg #[.int .i64 0, .slice none 0 0, .int .i64 0, .slice none 0 0]), 4, 64) := by kernel_rfl

theorem Below.of_grown_own {w w' : World} {base e size n : Nat} {v : Value} {xs : List Value} (h : w.ownsRow base e size v n xs) (hg : w.grownBy w' v.ownBlock) (hb : base ≤ w.heap.size) : Below base w w' :=
  ⟨hg.os, hg.tape, hg.output, hg.size, fun k hk => hg.block k (by omega) (fun e => by have := (own_row h e.symm).1; omega)⟩

set_option maxRecDepth 100000 in
set_option maxHeartbeats 4000000 in
theorem passedOrders_any (A : Option Addr) (c : Nat) (l : List Stp) (Ak : Option Addr) (ck : Nat) (key : List Int) (w : World) (hl : StpsAt w w.heap.size A l) (hk : KeyAt w w.heap.size Ak key) :
    Calls Try.prog 8 #[.slice A l.length c, .slice Ak key.length ck] w fun e w' => e = .returned (.bool true) ∧ Below w.heap.size w w' := by
  have HL := Lib.hid hl
  have HK := Lib.hid hk
  have hlen := hl.1
  clear hl hk
  obtain ⟨base, hbase⟩ : ∃ b, b = w.heap.size := ⟨_, rfl⟩
  rw [← hbase] at HL HK ⊢
  have hb : base ≤ w.heap.size := by omega
  clear hbase
  obtain ⟨i0, hi0, hz0, hz1, hz2⟩ := info_parts infoOf42
  go_enter Try.func8, Try.ntmps8
  go_wp2_with fail
  refine (live16_any w).mono ?_
  rintro e w1 ⟨rfl, hn⟩
  have hB := hn.below hb
  clear hn
  go_wp2_with fail
  go_loopw [6, 5] (fun ci cv wr => ∃ k : Nat, k ≤ l.length ∧ ci = .int .i64 ((k : Int) - 1) ∧ ∃ ms : List StpM, ms.map (·.x) = (putsOf (l.drop k)).reverse ∧ ms.length ≤ l.length - k ∧ (∀ m ∈ ms, StpMOk wr base m) ∧ wr.ownsRow base 42 4 cv ms.length (stpRow ms) ∧ Below base w wr)
    (fun cn _ _ => (intOf cn + 1).toNat)
  case atStart => exact ⟨l.length, by omega, by go_num, [], by rw [List.drop_length]; rfl, by simp, (fun m hm => by cases hm), World.ownsRow_nil _ _ _ _, hB⟩
  case round =>
    obtain ⟨k, hk, rfl, ms, hms, hmsl, hok, ho, hbl⟩ := hrel
    clear hB
    have hsz : base ≤ wr.heap.size := Nat.le_trans hb hbl.size
    cases k with
    | zero =>
      have hki : ((0 : Nat) : Int) - 1 = -1 := by omega
      rw [hki]
      rw [List.drop_zero] at hms
      have hmsl2 : ms.length ≤ 2199023255552 := by omega
      have hpl : (putsOf l).length = ms.length := by
        have := congrArg List.length hms
        simpa using this.symm
      obtain ⟨Av, cv, rfl⟩ := own_form ho
      have hback := fun w' (hb' : Below wr.heap.size wr w') => (stps_of_own ho (fun m hm => by
        have h := hok m hm
        exact ⟨h.key.mono hsz, h.cells.mono hsz, h.bytes, h.len⟩) hmsl2).below hb'
      have hbl2 : (ms.map (·.x)).length = ms.length := by simp
      have hmem : ∀ x : Stp, x.kind = 0 → (x ∈ l ↔ x ∈ ms.map (·.x)) := fun x hx => by
        rw [hms, List.mem_reverse]
        unfold putsOf
        rw [List.mem_filter]
        simp [hx]
      by_cases hbig : 4096 ≤ ms.length
      · have hbi : (4096 : Int) ≤ ms.length := by omega
        clear hback hok ho hmem hms hbl2 hpl
        go_wp2_with fail
        go_ret
        exact ⟨rfl, hbl⟩
      have hbi : ¬ (4096 : Int) ≤ ms.length := by omega
      have hra := run16_any wr.heap.size false A c l wr ((HL.out.below hbl).mono hsz) (Nat.le_refl _)
      have HRA := Lib.hid hra
      have HBACK := Lib.hid hback
      have HMEM := Lib.hid hmem
      clear hback hok ho hmem hms hra
      generalize hgb : ms.map (·.x) = back at *
      rw [← hbl2] at hpl hbi hbig ⊢
      clear hgb hbl2 hmsl hmsl2 ms
      go_wp2_with fail
      refine HRA.out.mono ?_
      rintro e w2 ⟨psa, a, rfl, hsa, hrana, hbl3⟩
      have hn2 := new_of_below hbl3
      have hb2 := hbl.trans (hn2.below hsz)
      have hrb := run16_any w2.heap.size true Av cv back w2 ((HBACK.out w2 hbl3).mono hn2.size) (Nat.le_refl _)
      have HRB := Lib.hid hrb
      have HSA := Lib.hid hsa
      clear HRA HBACK hrb hbl hsz hsa hbl3 hn2
      go_wp2_with fail
      refine HRB.out.mono ?_
      rintro e w3 ⟨psb, b, rfl, hsb, hranb, hbl3⟩
      have hn3 := new_of_below hbl3
      have hb3 := hb2.trans (hn3.below (Nat.le_trans hb hb2.size))
      have hsa3 := HSA.out.new hn3
      have hla := ran_length hrana
      have hlb := ran_length hranb
      have hpb : (putsOf back).length ≤ back.length := List.length_filter_le _ _
      obtain ⟨ho1, ho2⟩ := kept_orders hrana hranb (by omega) (by omega) HMEM.out key
      have HO2 := Lib.hid ho2
      have hof : ∀ w', New w3 w' → Calls Try.prog 35 #[.pointer (some ⟨psa, 0, none⟩), .slice Ak key.length ck] w' fun e w'' => ∃ A' c', e = .returned (.slice A' (idxs a.ents key).length c') ∧
          w''.ownsRow w'.heap.size 3 1 (.slice A' (idxs a.ents key).length c') (idxs a.ents key).length (nats (idxs a.ents key)) ∧ New w' w'' := fun w' hn =>
        of_any_key w' (hsa3.new hn) Ak ck key ((HK.out.1.below (hb3.trans (hn.below (Nat.le_trans hb hb3.size)))).mono (Nat.le_trans (Nat.le_trans hb hb3.size) hn.size)) HK.out.2
      have hofb : ∀ w', New w3 w' → Calls Try.prog 35 #[.pointer (some ⟨psb, 0, none⟩), .slice Ak key.length ck] w' fun e w'' => ∃ A' c', e = .returned (.slice A' (idxs a.ents key).length c') ∧ New w' w'' := fun w' hn =>
        (of_any_key w' (hsb.new hn) Ak ck key ((HK.out.1.below (hb3.trans (hn.below (Nat.le_trans hb hb3.size)))).mono (Nat.le_trans (Nat.le_trans hb hb3.size) hn.size)) HK.out.2).mono fun e w'' ⟨A', c', h1, _, h3⟩ => by
          rw [← ho1] at h1
          exact ⟨A', c', h1, h3⟩
      have HOF := Lib.hid (hof w3 (New.refl _))
      have HOFB := Lib.hid hofb
      have hzo : ∀ (ps : Nat) (base : Nat) (s : Sto), StoreAt base w3 ps s → ∀ (i : Nat), i < s.ents.length → ∀ w', New w3 w' → Calls Try.prog 48 #[.pointer (some ⟨ps, 0, none⟩), .int .i64 i] w' fun x w'' => x = .returned (.tuple #[.pointer (some ⟨(entAt s.ents i).zb, 0, none⟩), .int .i64 0]) ∧ New w' w'' :=
        fun ps base s h i hi w' hn => zone_got w' i (h.new hn) hi
      have HZO := Lib.hid hzo
      have hcv : ∀ (i : Nat), i < a.ents.length → ∀ w', New w3 w' → Calls Try.prog 27 #[.pointer (some ⟨psb, 0, none⟩), .slice Ak key.length ck, .pointer (some ⟨(entAt a.ents i).zb, 0, none⟩)] w' fun e w'' => e = .returned (.int .i64 (coversS b.ents key (entAt a.ents i).zone)) ∧ Drew w' w'' := fun i hi w' hn => by
        obtain ⟨_, _, _, _, hin⟩ := hsa3.new hn
        exact covers_any w' (hsb.new hn) Ak ck key ((HK.out.1.below (hb3.trans (hn.below (Nat.le_trans hb hb3.size)))).mono (Nat.le_trans (Nat.le_trans hb hb3.size) hn.size)) HK.out.2 _ _ (hin.entOk i hi).zone
      have HCV := Lib.hid hcv
      have heq : ∀ (i k : Nat), i < a.ents.length → k < b.ents.length → (entAt b.ents k).zone = (entAt a.ents i).zone → ∀ w', New w3 w' →
          Calls Try.prog 49 #[.pointer (some ⟨(entAt a.ents i).zb, 0, none⟩), .pointer (some ⟨(entAt b.ents k).zb, 0, none⟩)] w' fun e w'' => e = .returned (.bool true) ∧ Drew w' w'' := fun i k hi hk he w' hn => by
        obtain ⟨_, _, _, _, hin⟩ := hsa3.new hn
        obtain ⟨_, _, _, _, hin2⟩ := hsb.new hn
        have h := equal_any _ _ _ _ w' (hin.entOk i hi).zone (hin2.entOk k hk).zone (by rw [he])
        rw [he, decide_eq_true rfl] at h
        exact h
      have HEQ := Lib.hid heq
      have HSA3 := Lib.hid hsa3
      have HSB := Lib.hid hsb
      have hill := idxs_length_le a.ents key
      have hfew : a.ents.length ≤ 4096 := by omega
      have hmem2 : ∀ k, k < (idxs a.ents key).length → (idxs a.ents key).getD k 0 < a.ents.length ∧ (idxs a.ents key).getD k 0 ∈ idxs a.ents key := fun k hk => by
        have hm : (idxs a.ents key).getD k 0 ∈ idxs a.ents key := by
          rw [List.getD_eq_getElem?_getD, List.getElem?_eq_getElem hk]; exact List.getElem_mem hk
        exact ⟨idxs_lt hm, hm⟩
      have HMEM2 := Lib.hid hmem2
      clear HRB HSA hrana hranb hbl3 hb2 hla hlb hpb ho1 ho2 hof hofb hzo hcv heq hsa3 hsb hmem2 HMEM HL hpl hbi hbig hn3
      go_wp2_with fail
      refine HOF.out.mono ?_
      rintro e w4 ⟨Ax, cx, rfl, hox, hn4⟩
      have hofb4 := HOFB.out w4 hn4
      have HOFB4 := Lib.hid hofb4
      have hel4 := elemsT_of_own hox
      clear HOF HOFB hofb4 hox
      go_wp2_with fail
      refine HOFB4.out.mono ?_
      rintro e w5 ⟨Ay, cy, rfl, hn5⟩
      have hn35 := hn4.trans hn5
      have hel5 := hel4.keeps hn5.keeps (by decide) (by decide)
      clear HOFB4 hel4 hn4 hn5
      generalize hL : idxs a.ents key = L at *
      have hself : ((L.length : Int) == (L.length : Int)) = true := by simp
      go_wp2_with fail
      go_loopw [11] (fun ci wr => ∃ i : Nat, i ≤ L.length ∧ ci = .int .i64 i ∧ New w3 wr ∧ ElemsT wr 3 Ax (nats L))
        (fun cn _ => L.length - (intOf cn).toNat)
      case atStart => exact ⟨0, by omega, rfl, hn35, hel5⟩
      case round =>
        obtain ⟨i, hi, rfl, hn, hel⟩ := hrel
        clear hn35 hel5
        by_cases hlt : i < L.length
        · have hii : (i : Int) < L.length := by omega
          obtain ⟨ob, off, rfl, hob, hcell⟩ := ElemsT.nats (l := L) hel i hlt
          obtain ⟨hj, hjm⟩ := HMEM2.out i hlt
          obtain ⟨k, hcvk, hkb, hze⟩ := HO2.out _ hjm
          have HEL := Lib.hid hel
          generalize L.getD i 0 = j at *
          have z1 := HZO.out psa _ a HSA3.out j hj wr hn
          have z2 := fun w' (h : New w3 w') => HCV.out j hj w' h
          have z3 := fun w' (h : New w3 w') => HZO.out psb _ b HSB.out k hkb w' h
          have z4 := fun w' (h : New w3 w') => HEQ.out j k hj hkb hze w' h
          rw [hcvk] at z2
          have Z1 := Lib.hid z1
          have Z2 := Lib.hid z2
          have Z3 := Lib.hid z3
          have Z4 := Lib.hid z4
          clear z1 z2 z3 z4 hel hjm hcvk hze HO2 HMEM2 HZO HCV HEQ
          go_wp2_with fail
          refine Z1.out.mono ?_
          rintro e w6 ⟨rfl, hn6⟩
          have g6 := hn.trans hn6
          have hel6 := HEL.out.keeps hn6.keeps (by decide) (by decide)
          have Y2 := Lib.hid (Z2.out w6 g6)
          clear Z1 Z2 HEL hob hcell hn hn6
          go_wp2_with fail
          refine Y2.out.mono ?_
          rintro e w7 ⟨rfl, hd7⟩
          have g7 := g6.trans hd7.new
          have hel7 := hel6.keeps hd7.keeps (by decide) (by decide)
          have Y3 := Lib.hid (Z3.out w7 g7)
          clear Y2 Z3 hel6 hd7 g6
          go_wp2_with fail
          refine Y3.out.mono ?_
          rintro e w8 ⟨rfl, hn8⟩
          have g8 := g7.trans hn8
          have hel8 := hel7.keeps hn8.keeps (by decide) (by decide)
          have Y4 := Lib.hid (Z4.out w8 g8)
          clear Y3 Z4 hel7 hn8 g7
          go_wp2_with fail
          refine Y4.out.mono ?_
          rintro e w9 ⟨rfl, hd9⟩
          have g9 := g8.trans hd9.new
          have hel9 := hel8.keeps hd9.keeps (by decide) (by decide)
          clear Y4 hel8 hd9 g8
          go_wp2_with fail
          exact ⟨⟨i + 1, by omega, by go_num, g9, hel9⟩, by simp [intOf]; omega⟩
        · have : i = L.length := by omega
          subst this
          go_wp2_with fail
          go_ret
          exact ⟨rfl, hb3.trans (hn.below (Nat.le_trans hb hb3.size))⟩
    | succ k =>
      have hx : l[k]? = some l[k] := List.getElem?_eq_getElem (by omega)
      obtain ⟨b, o, rfl, hbb, hst⟩ := (HL.out.below hbl).2 k _ hx
      have hpd := putsOf_drop hx
      generalize l[k] = x at *
      have hki : ((k + 1 : Nat) : Int) - 1 = k := by omega
      rw [hki]
      obtain ⟨kA, kc, h1, hke⟩ := hst.key
      obtain ⟨cA, cc, h3, hce⟩ := hst.cells
      have h0 := hst.kind
      have h2 := hst.num
      have hblt : b < wr.heap.size := Nat.lt_of_lt_of_le hbb hsz
      have hii : (k : Int) < l.length := by omega
      by_cases hk0 : x.kind = 0
      · rw [if_pos hk0] at hpd
        have hm : StpMOk wr base ⟨x, kA, kc, cA, cc⟩ := ⟨hke, hce, hst.bytes, hst.len⟩
        have hms2 : (ms ++ [(⟨x, kA, kc, cA, cc⟩ : StpM)]).map (·.x) = (putsOf (l.drop k)).reverse := by
          rw [hpd, List.reverse_cons, List.map_append, hms]; rfl
        have hn := (New.refl wr).alloc (.cells (stpCells ⟨x, kA, kc, cA, cc⟩).toArray 42)
        have hown := own_new ho hn
        have hel := elems_news wr 42 (stpCells ⟨x, kA, kc, cA, cc⟩)
        have hok2 : ∀ w', Below base wr w' → ∀ m ∈ ms ++ [(⟨x, kA, kc, cA, cc⟩ : StpM)], StpMOk w' base m := fun w' hb' m hmm => by
          rcases List.mem_append.1 hmm with h | h
          · exact (hok m h).below hb'
          · simp only [List.mem_singleton] at h
            subst h
            exact hm.below hb'
        have HMS2 := Lib.hid hms2
        have HOK2 := Lib.hid hok2
        have HOWN := Lib.hid hown
        have HEL := Lib.hid hel
        have HO := Lib.hid ho
        have hk0b : (x.kind == 0) = true := by simp [hk0]
        clear hms hok ho hx hpd hke hce hst hm hms2 hn hown hel hok2 hk0
        go_wp2_with (at_builtin; refine wpList_append_elems rfl _ _ 36 rfl base 42 i0 _ 4 64 Try.underlying36 hi0 hz0 hz1 hz2 rfl (by decide) _ _ _ rfl HOWN.out (wr.heap.size + 1) _ 1 1 (stpCells ⟨x, kA, kc, cA, cc⟩) rfl HEL.out rfl (stpCells_one _) ?c1 ?c2 ?c3 ?_)
        case c1 => unfold maxLen; omega
        case c2 => omega
        case c3 => simp; omega
        intro v' w' ho' hg hloc
        have hb' : Below base wr w' := ((New.refl wr).alloc _).below hsz |>.trans (Below.of_grown_own HOWN.out hg (by rw [World.size_alloc]; omega))
        have ho2 : w'.ownsRow base 42 4 v' (ms ++ [(⟨x, kA, kc, cA, cc⟩ : StpM)]).length (stpRow (ms ++ [(⟨x, kA, kc, cA, cc⟩ : StpM)])) := by
          rw [stpRow_snoc, List.length_append]; exact ho'
        have hok3 := HOK2.out w' hb'
        have HO2 := Lib.hid ho2
        have HOK3 := Lib.hid hok3
        have hb3 := hbl.trans hb'
        clear ho' hg hloc ho2 hok3 HOK2 HOWN HEL HO h0 h1 h2 h3
        go_wp2
        exact ⟨⟨k, by omega, by go_num, _, HMS2.out, by simp; omega, HOK3.out, HO2.out, hb3⟩, by simp [intOf]⟩
      · have hk0b : (x.kind == 0) = false := by simpa using hk0
        rw [if_neg hk0] at hpd
        rw [← hpd] at hms
        have HMS := Lib.hid hms
        have HOK := Lib.hid hok
        have HO := Lib.hid ho
        clear hms hok ho hx hpd hke hce hst
        go_wp2_with fail
        exact ⟨⟨k, by omega, by go_num, ms, HMS.out, by omega, HOK.out, HO.out, hbl⟩, by simp [intOf]⟩
end Go.Proofs.Ytapfihlgemejiaa
