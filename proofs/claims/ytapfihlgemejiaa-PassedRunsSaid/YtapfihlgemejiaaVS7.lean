/- Walks over package passed: Take. -/
import Derived.Test.YtapfihlgemejiaaVS6
import Derived.Test.YtapfihlgemejiaaVA4
namespace Go.Proofs.Ytapfihlgemejiaa
open Go.RowKit
theorem count_modify (l : List Ent) (i : Nat) (t : Int) (hi : i < l.length) (h1 : (entAt l i).taken < 0) (h2 : 0 ≤ t) :
    ((l.modify i (takeE t)).filter fun e => decide (0 ≤ e.taken)).length = (l.filter fun e => decide (0 ≤ e.taken)).length + 1 := by
  induction l generalizing i with
  | nil => simp at hi
  | cons e l ih =>
    cases i with
    | zero =>
      have h1 : e.taken < 0 := h1
      have h3 : ¬ 0 ≤ e.taken := by omega
      rw [List.modify_zero_cons, List.filter_cons, List.filter_cons]
      simp [takeE, h2, h3]
    | succ i =>
      have := ih i (by simpa using hi) h1
      rw [List.modify_succ_cons, List.filter_cons, List.filter_cons]
      split
      · simp only [List.length_cons]; omega
      · omega
theorem takeS_ok {s : Sto} (h : s.Ok) {i : Nat} (hi : i < s.ents.length) (hw : waitsB (entAt s.ents i) = true) : (takeS s i).Ok := by
  have ht : (entAt s.ents i).taken < 0 := by
    unfold waitsB at hw
    simp at hw
    exact hw.2
  refine ⟨?_, ?_⟩
  · unfold takeS; simp only [List.length_modify]; exact h.few
  · unfold takeS
    simp only
    rw [count_modify s.ents i s.tk hi ht h.tk_le.1, h.count]
    omega

set_option maxHeartbeats 1000000 in
theorem take_done {base : Nat} {w : World} {ps : Nat} {s : Sto} {c pm : Nat} {ml : List (ByteArray × Value)} {pe i : Nat} (h : StoreIn base w ps s (some ⟨pe, 0, none⟩) c pm ml) (hi : i < s.ents.length) (hw : waitsB (entAt s.ents i) = true) :
    StoreAt base ((w.setCell ⟨pe, i * 4 + 2, none⟩ (.int .i64 s.tk)).setCell ⟨ps, 3, none⟩ (.int .i64 (s.tk + 1))) ps (takeS s i) ∧
      Keeps w ((w.setCell ⟨pe, i * 4 + 2, none⟩ (.int .i64 s.tk)).setCell ⟨ps, 3, none⟩ (.int .i64 (s.tk + 1))) ∧
      Below base w ((w.setCell ⟨pe, i * 4 + 2, none⟩ (.int .i64 s.tk)).setCell ⟨ps, 3, none⟩ (.int .i64 (s.tk + 1))) := by
  obtain ⟨hbp, cur, hc⟩ := own_row h.own rfl
  have hat : At pe w (w.setCell ⟨pe, i * 4 + 2, none⟩ (.int .i64 s.tk)) := (At.refl pe w).set _ _
  have hne : ps ≠ pe := fun e => by
    have := h.row
    unfold Row at this
    rw [e, hc] at this
    simp at this
  have hnm : pm ≠ pe := fun e => by
    obtain ⟨es, clock, h3, _⟩ := h.map
    rw [e, hc] at h3
    cases h3
  have hnm2 : pm ≠ ps := fun e => by
    obtain ⟨es, clock, h3, _⟩ := h.map
    have := h.row
    unfold Row at this
    rw [e, this] at h3
    cases h3
  have hr1 := hat.row h.row hne
  have ho1 := own_set h.own (i * 4 + 2) (.int .i64 s.tk)
  have hm1 := h.map.fr hat (fun e => hnm e)
  have hat2 : At ps (w.setCell ⟨pe, i * 4 + 2, none⟩ (.int .i64 s.tk)) ((w.setCell ⟨pe, i * 4 + 2, none⟩ (.int .i64 s.tk)).setCell ⟨ps, 3, none⟩ (.int .i64 (s.tk + 1))) := (At.refl ps _).set _ _
  have hk : Keeps w ((w.setCell ⟨pe, i * 4 + 2, none⟩ (.int .i64 s.tk)).setCell ⟨ps, 3, none⟩ (.int .i64 (s.tk + 1))) := by
    intro g cs t fr hg t1 t2
    have n1 : g ≠ pe := fun e => by
      rw [e, hc] at hg
      simp only [Option.some.injEq, Obj.cells.injEq] at hg
      exact t2 hg.2.1.symm
    have n2 : g ≠ ps := fun e => by
      have := h.row
      unfold Row at this
      rw [e, this] at hg
      simp only [Option.some.injEq, Obj.cells.injEq] at hg
      exact t1 hg.2.1.symm
    have hlt := (Array.getElem?_eq_some_iff.1 hg).1
    have e1 := hat.block g hlt (fun e => n1 e)
    exact (hat2.block g (Nat.lt_of_lt_of_le hlt hat.size) (fun e => n2 e)).trans e1
  refine ⟨⟨some ⟨pe, 0, none⟩, c, pm, ml, ?_⟩, hk, ((Below.refl base w).setCell (p := ⟨pe, i * 4 + 2, none⟩) hbp _).setCell (p := ⟨ps, 3, none⟩) h.low _⟩
  have hsl : (takeS s i).ents.length = s.ents.length := by unfold takeS; simp
  have hent : ∀ e ∈ (takeS s i).ents, EntOk ((w.setCell ⟨pe, i * 4 + 2, none⟩ (.int .i64 s.tk)).setCell ⟨ps, 3, none⟩ (.int .i64 (s.tk + 1))) e := by
    intro e he
    obtain ⟨j, hj, rfl⟩ := mem_of_entAt he
    rw [hsl] at hj
    have hej := (h.entOk j hj).keeps hk
    unfold takeS
    simp only
    rw [entAt_modify _ _ _ _ hi]
    split
    · exact ⟨hej.bytes, hej.key, hej.zone, hej.cap, hej.len⟩
    · exact hej
  refine { row := ?_, own := ?_, map := hm1.fr hat2 (fun e => hnm2 e), of := ?_, ents := hent, ok := takeS_ok h.ok hi hw, low := h.low, lowm := h.lowm }
  · have := hr1.set 3 (.int .i64 (s.tk + 1))
    rw [hsl]
    exact this
  · rw [hsl]
    have h2 : entRow (takeS s i).ents = (entRow s.ents).set (i * 4 + 2) (.int .i64 s.tk) := by
      rw [Nat.mul_comm i 4, entRow_take _ _ _ hi]; rfl
    rw [h2]
    refine own_keep ho1 fun g hg => ?_
    cases hg
    exact hat2.block pe (Nat.lt_of_lt_of_le (Array.getElem?_eq_some_iff.1 hc).1 hat.size) (fun e => hne e.symm)
  · intro key hkey
    obtain ⟨A', c', e1, e2⟩ := h.of key hkey
    have e3 : idxs (takeS s i).ents key = idxs s.ents key := idxs_modify hi (takeE s.tk) (fun e => ⟨rfl, rfl⟩) key
    rw [e3]
    exact ⟨A', c', e1, e2.keeps hk (by decide) (by decide)⟩
theorem waitS_le (s : Sto) : (waitS s).length ≤ s.ents.length := by
  have := waitL_le s.ents s.ents.length
  cases h : s.last with
  | false => rw [waitS_first h]; exact this
  | true => rw [waitS_last h, List.length_reverse]; exact this

set_option maxRecDepth 100000 in
set_option maxHeartbeats 400000 in
theorem take_none {base ps : Nat} {s : Sto} (w : World) (h : StoreAt base w ps s) (he : waitS s = []) :
    Calls Try.prog 31 #[.pointer (some ⟨ps, 0, none⟩)] w fun e w' => e = .returned (.tuple #[.int .i64 0, .bool false]) ∧ New w w' := by
  have hw := waiting_any w h
  rw [he] at hw
  have HW := Lib.hid hw
  clear hw h
  go_enter Try.func31, Try.ntmps31
  go_wp2_with (go_at_call 28; go_must (refine HW.out.mono ?_; rintro e w2 ⟨A, c, rfl, _, hn⟩))
  go_ret2
  exact ⟨rfl, hn⟩
set_option maxRecDepth 100000 in
set_option maxHeartbeats 1000000 in
theorem take_some {base ps : Nat} {s : Sto} (w : World) (h : StoreAt base w ps s) (hb : base ≤ w.heap.size) {i : Nat} {r : List Nat} (he : waitS s = i :: r) :
    Calls Try.prog 31 #[.pointer (some ⟨ps, 0, none⟩)] w fun e w' => e = .returned (.tuple #[.int .i64 i, .bool true]) ∧ StoreAt base w' ps (takeS s i) ∧ Keeps w w' ∧ Below base w w' := by
  have hw := waiting_any w h
  have hle := waitS_le s
  obtain ⟨hi, hwi⟩ := waitS_mem (i := i) (s := s) (by rw [he]; exact List.mem_cons_self)
  have hex : ∃ n : Nat, (waitS s).length = n + 1 := ⟨r.length, by rw [he]; rfl⟩
  obtain ⟨n, hn1⟩ := hex
  have hget : (nats (waitS s))[0]? = some (.int .i64 i) := by rw [he]; rfl
  rw [hn1] at hw
  have HW := Lib.hid hw
  have hfew : s.ents.length ≤ 4096 := by
    obtain ⟨_, _, _, _, h⟩ := h
    exact h.ok.few
  have HI := Lib.hid h
  have HG := Lib.hid hget
  have hpos : decide ((n : Int) + 1 = 0) = false := by simp; omega
  have hn0 : (0 : Int) < (n : Int) + 1 := by omega
  clear hw h hget
  go_enter Try.func31, Try.ntmps31
  go_wp2_with (go_at_call 28; go_must (refine HW.out.mono ?_; rintro e w2 ⟨A2, c2, rfl, ho, hn⟩))
  have hst := HI.out.new hn
  obtain ⟨A, c, pm, ml, h⟩ := hst
  obtain ⟨pe, rfl, hbp, _, _, d2, _, hf⟩ := h.ent i hi
  obtain ⟨h0, h1, _, h3⟩ := h.cells
  have hps := h.row.lt
  have hpe := World.block_lt_of_cell? w2 _ d2
  have hf3 := h.row.free 3
  obtain ⟨g2, rfl, hg2, hgl, hc2, _⟩ := own_cell ho (by rw [nats_length, hn1]; omega)
  have hc0 := hc2 0 _ HG.out
  have hfi := hf (i * 4 + 2)
  have hii : (i : Int) < s.ents.length := by omega
  obtain ⟨_, cur, hcur⟩ := own_row h.own (g := pe) rfl
  obtain ⟨_, cur2, hcur2⟩ := own_row ho (g := g2) rfl
  have hne1 : ps ≠ pe := fun e => by
    have := h.row
    unfold Row at this
    rw [e, hcur] at this
    simp at this
  have hne2 : g2 ≠ pe := fun e => by
    rw [e, hcur] at hcur2
    simp at hcur2
  have hne3 : g2 ≠ ps := fun e => by
    have := h.row
    unfold Row at this
    rw [← e, hcur2] at this
    simp at this
  obtain ⟨ht0, ht1⟩ := h.ok.tk_le
  have hdone := take_done h hi hwi
  have HD := Lib.hid hdone
  have hnw := hn.below hb
  have hnk := hn.keeps
  clear h hc2 hf hcur hcur2 ho hdone HI HW HG
  go_region
  all_goals
    go_wp2_with fail
    go_ret2
    obtain ⟨d1, d2, d3⟩ := HD.out
    exact ⟨rfl, d1.new (New.refl _).drew, hnk.trans (d2.trans (New.keeps (New.refl _).drew)), (hnw.trans d3).drew⟩
end Go.Proofs.Ytapfihlgemejiaa
