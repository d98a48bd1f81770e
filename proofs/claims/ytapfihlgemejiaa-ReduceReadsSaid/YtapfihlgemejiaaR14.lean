/- reduce.Few: the walk. -/
import Derived.Test.YtapfihlgemejiaaR11
import Derived.Test.YtapfihlgemejiaaR2
namespace Go.Proofs.Ytapfihlgemejiaa
open Go.RowKit Go.Proofs.YtapfihlgemejiaaW.PrintLast
def r67aT : Bool × List (List Nat × List Nat) := (true, [([], []), ([0], [0]), ([1], [1]), ([], []), ([3], [3]), ([4], [4]), ([2, 5], [2, 5]), ([6], [6]), ([7], [7]), ([7], [7]), ([9, 7], [7, 9]), ([10, 7], [7, 10]), ([7], [7]), ([7], [7]), ([8, 11, 12, 13, 7, 7], [7, 8, 11, 12, 13]), ([7, 14], [7, 14])])
def r67aB : List Nat := [0, 1, 3, 0, 8, 24, 63, 127, 255, 255, 767, 1791, 255, 255, 16383, 32767]
theorem r67aTab : rtab .any (opsOf Try.f67 27) = r67aT := by kernel_rfl
theorem r67aBits : waitsOk r67aT.2 r67aB = true := by kernel_rfl
def r67bT : Bool × List (List Nat × List Nat) := (true, [([], []), ([], []), ([1], [1]), ([2], [2]), ([], []), ([4], [4]), ([5], [5]), ([0, 3, 6], [0, 3, 6])])
def r67bB : List Nat := [0, 0, 2, 6, 0, 16, 48, 127]
theorem r67bTab : rtab .any (opsOf Try.f67 28) = r67bT := by kernel_rfl
theorem r67bBits : waitsOk r67bT.2 r67bB = true := by kernel_rfl
theorem getD_mem_or {l : List Nat} (i : Nat) : l.getD i 0 = 0 ∨ l.getD i 0 ∈ l := by
  by_cases h : i < l.length
  · right; rw [List.getD_eq_getElem?_getD, List.getElem?_eq_getElem h]; exact List.getElem_mem h
  · left; rw [List.getD_eq_getElem?_getD, List.getElem?_eq_none (by omega)]; rfl
theorem mem_roundL {Z : List Int} {c : List Nat} {x : Nat} (h : x ∈ roundL Z c) : x ∈ c := by
  unfold roundL at h
  split at h
  · simp only [List.mem_append, List.mem_filter] at h
    rcases h with (h | h) | h <;> exact h.1
  · exact h
theorem roundL_le {Z : List Int} {c : List Nat} {N : Nat} (h : ∀ i, c.getD i 0 ≤ N) (i : Nat) : (roundL Z c).getD i 0 ≤ N := by
  rcases getD_mem_or (l := roundL Z c) i with e | e
  · omega
  · obtain ⟨k, hk, e2⟩ := List.getElem_of_mem (mem_roundL e)
    have := h k
    rw [List.getD_eq_getElem?_getD, List.getElem?_eq_getElem hk] at this
    rw [← e2]; exact this
set_option maxRecDepth 100000 in
set_option maxHeartbeats 8000000 in
theorem fewB_any (b : Nat) (z : Zn) (w : World) (h : ZoneAt w b z) (he : emptyB z.Z = false) (hc : Cells32 z) :
    Calls Try.prog 67 #[.pointer (some ⟨b, 0, none⟩)] w fun e w' => ∃ v, e = .returned (.tuple #[v, .int .i64 0]) ∧ w'.ownsRow w.heap.size 100 3 v (fewL z.Z z.n).length (limRow ((fewL z.Z z.n).map (limOf z.Z))) ∧ New w w' := by
  have EM := Lib.hid (fun W (hn : New w W) => empty_any b z W (h.new hn))
  rw [he] at EM
  have CL := Lib.hid (fun W (hn : New w W) => classes_any b z W (h.new hn) he hc)
  have HOK := Lib.hid (classesL_ok z.Z z.n h.dim)
  have HZ := Lib.hid h
  have HC32 := Lib.hid hc
  have hzn := h.dim
  have HE := Lib.hid (fewL_eq z.Z z.n)
  clear he h hc
  go_enter Try.func67, Try.ntmps67
  go_wp2_with fail
  refine (EM.out _ (New.refl w)).mono ?_
  rintro e w' ⟨rfl, rfl⟩
  go_wp2_with fail
  refine (CL.out _ ((New.refl w).alloc _)).mono ?_
  rintro e w1 ⟨vC, rfl, hlol, hn1⟩
  have R1 := hn1.row (Row.new_at w 196 [.pointer (some ⟨b, 0, none⟩)] rfl)
  obtain ⟨m, hm⟩ : ∃ m, (classesL z.Z z.n).length = m := ⟨_, rfl⟩
  have hm9 : m ≤ 9 := hm ▸ HOK.out.1
  obtain ⟨A, cap, hvC⟩ := hlol.form
  rw [hm] at hvC
  subst hvC
  have hmf : ∀ (fn : Fn) (first cap : Array Value) (w : World), (Instr.makeFunc fn first cap).run Try.prog w = .ok (.func fn first cap) w := fun _ _ _ _ => rfl
  have hlol2 : LolAt w.heap.size w1 (.slice A m cap) (classesL z.Z z.n) := by
    obtain ⟨bs, h1, h2, h3, h4⟩ := hlol
    exact ⟨bs, h1, own_lower h2 (by simp), fun i u hu => own_lower (h3 i u hu) (by simp), h4⟩
  have hst : FewSt w (w1.alloc (.cells #[.slice none 0 0] 113)) b w.heap.size w1.heap.size z (.slice A m cap) [] := by
    have hn := ((New.refl w).alloc (.cells #[.pointer (some ⟨b, 0, none⟩)] 196)).trans hn1
    refine ⟨HZ.out, hn.alloc _, R1.alloc _, hlol2.new ((New.refl w1).alloc _), ⟨.slice none 0 0, Row.new w1 113 [.slice none 0 0], ?_⟩, hn.size⟩
    exact World.ownsRow_nil _ _ _ _
  have HST := Lib.hid hst
  have HM := Lib.hid hm
  clear hst hlol hlol2 hn1 R1 hm CL EM
  go_wp2_with fail
  go_loopw [35] (fun ci wr => ∃ k : Nat, k ≤ m ∧ ci = .int .i64 k ∧ Hid (FewSt w wr b w.heap.size w1.heap.size z (.slice A m cap) (putsTo z.Z (classesL z.Z z.n) k)))
    (fun cn _ => m - (intOf cn).toNat)
  case atStart => exact ⟨0, Nat.zero_le _, rfl, HST.out⟩
  case round =>
    rename World => wo
    obtain ⟨k, hk, rfl, HS⟩ := hrel
    by_cases hlt : k < m
    · have hltz : (k : Int) < m := by omega
      have hl0 := HS.out.cls
      rw [← HM.out] at hl0
      obtain ⟨vs, ⟨aC, offC, hA, hreadC⟩, hvs⟩ := hl0.reads (by rw [HM.out]; omega)
      subst hA
      have s0 := hreadC wo (New.refl wo) k (by rw [HM.out]; exact hlt)
      have hown := hvs k (by rw [HM.out]; exact hlt)
      obtain ⟨o1, o2, o3⟩ := HOK.out.2 k (by rw [HM.out]; exact hlt)
      have hps := putsTo_succ z.Z (classesL z.Z z.n) k (by rw [HM.out]; exact hlt)
      have hpl := putsTo_length z.Z (classesL z.Z z.n) (fun q hq => (HOK.out.2 q hq).2.1) k (by rw [HM.out]; exact hk)
      generalize hcc : (classesL z.Z z.n).getD k [] = c at hown o1 o2 o3 hps
      obtain ⟨Ak, ck, hvk⟩ := own_form hown
      rw [hvk] at s0 hown
      have HPS := Lib.hid hps
      have c0 : wo.cell? ⟨w.heap.size, 0, none⟩ = some (.pointer (some ⟨b, 0, none⟩)) := HS.out.rr.cell 0
      have HR := Lib.hid (round_any b z Ak ck c wo HS.out.zoneR (elems_of_own hown) o3 o1 o2)
      have HL2 := Lib.hid (roundL_length z.Z c)
      have HLE := Lib.hid (roundL_le (Z := z.Z) o3)
      clear hreadC hvs hown o3 hps hvk hcc hl0
      go_wp2_with fail
      with_reducible refine HR.out.mono ?_
      rintro e w3 ⟨A3, c3, rfl, ho3, hn3⟩
      generalize hlg : roundL z.Z c = l at *
      have HO3 := Lib.hid ho3
      have HS3 := Lib.hid (HS.out.step hn3)
      clear ho3 hn3 HR hlg
      have hlc : Hid (l.length = c.length) := HL2.out
      go_wp2_with fail
      go_loopw [44] (fun ci wr => ∃ t : Nat, t ≤ c.length ∧ ci = .int .i64 t ∧ Hid (FewSt w wr b w.heap.size w1.heap.size z (.slice (some ⟨aC, offC, none⟩) m cap) (putsTo z.Z (classesL z.Z z.n) k ++ rpTo z.Z l t)) ∧ Hid (wr.ownsRow wo.heap.size 3 1 (.slice A3 c.length c3) c.length (nats l)))
        (fun cn _ => c.length - (intOf cn).toNat)
      case atStart => exact ⟨0, Nat.zero_le _, rfl, by rw [show rpTo z.Z l 0 = [] from rfl, List.append_nil]; exact HS3.out, HO3.out⟩
      case round =>
        obtain ⟨t, ht, rfl, HSt, HOt⟩ := hrel
        by_cases htl : t < c.length
        · have htz : (t : Int) < c.length := by omega
          have hot := HOt.out
          rw [← hlc.out] at hot
          obtain ⟨a3, off3, hA3, hread3⟩ := own_reads hot (by rw [hlc.out]; omega)
          subst hA3
          have hmod : (t + 1) % c.length < c.length := Nat.mod_lt _ (by omega)
          have s1 := hread3 wr (New.refl wr) t (by rw [hlc.out]; exact htl)
          have s2 := hread3 wr (New.refl wr) ((t + 1) % c.length) (by rw [hlc.out]; exact hmod)
          have hx := HLE.out t
          have hy := HLE.out ((t + 1) % c.length)
          have hyes := rpTo_yes (Z := z.Z) (l := l) (t := t)
          have hno := rpTo_no (Z := z.Z) (l := l) (t := t)
          have hrl := rpTo_length z.Z l t
          rw [hlc.out] at hyes hno
          have AT0 := (at_any b z 0 (l.getD ((t + 1) % c.length) 0) wr HSt.out.zoneR (Nat.zero_le _) hy)
          have HPUT := Lib.hid (fun W (hn : New wr W) => (HSt.out.step hn).put (by rw [List.length_append]; omega) (l.getD t 0) (l.getD ((t + 1) % c.length) 0) hx hy)
          have e0 : gt z.Z (9 * 0 + l.getD ((t + 1) % c.length) 0) = cellN z.Z 0 (l.getD ((t + 1) % c.length) 0) := rfl
          rw [e0] at AT0
          have c1 : wr.cell? ⟨w.heap.size, 0, none⟩ = some (.pointer (some ⟨b, 0, none⟩)) := HSt.out.rr.cell 0
          generalize hxg : l.getD t 0 = x at *
          generalize hyg : l.getD ((t + 1) % c.length) 0 = y at *
          generalize hrg : (t + 1) % c.length = r at *
          generalize cellN z.Z 0 y = q at *
          have AT : Hid (Calls Try.prog 140 #[.agg #[.pointer (some ⟨b, 0, none⟩)], .int .i64 0, .int .i64 y] wr fun e w' => e = .returned (.int .i32 q) ∧ New wr w') := AT0
          clear AT0
          have hrem : ((t : Int) + 1) % (c.length : Int) = (r : Int) := by rw [← hrg]; push_cast; rfl
          have hrz : (r : Int) < c.length := by omega
          have HY := Lib.hid hyes
          have HN := Lib.hid hno
          clear hread3 hxg hyg hrg hyes hno hot e0 hx hy hrl
          by_cases h1 : 1 < c.length
          · have h1z : decide ((c.length : Int) > 1) = true := decide_eq_true (by omega)
            have h1z' : (1 : Int) < c.length := by omega
            by_cases h2 : x = 0
            · have h2z : ((x : Int) != 0) = false := by simp; omega
              have h2z' : (x : Int) = 0 := by omega
              by_cases h3 : q = 1
              · have h3z : (q != 1) = false := by simp [h3]
                have HN2 : Hid _ := HN.out (fun e => by rcases e.2 with e | e; exact e h2; exact e h3)
                clear HN HY HPUT
                go_wp2_with fail
                with_reducible refine AT.out.mono ?_
                rintro e w4 ⟨rfl, hn4⟩
                have HN4 := Lib.hid hn4
                clear hn4 AT
                go_wp2_with fail
                refine ⟨⟨t + 1, by omega, by go_num, ?_, own_new HOt.out HN4.out⟩, by simp [intOf] <;> omega⟩
                rw [HN2.out]
                exact HSt.out.step HN4.out
              · have h3z : (q != 1) = true := by simp [h3]
                have HN2 : Hid _ := HY.out ⟨h1, .inr h3⟩
                clear HN HY
                go_wp2_with fail
                with_reducible refine AT.out.mono ?_
                rintro e w4 ⟨rfl, hn4⟩
                have HN4 := Lib.hid hn4
                have HP : Hid (Calls Try.prog 139 #[.int .i64 0, .int .i64 y, .pointer (some ⟨w1.heap.size, 0, none⟩), .pointer (some ⟨w.heap.size, 0, none⟩)] w4 fun e w' => e = .returned (.tuple #[]) ∧ FewSt w w' b w.heap.size w1.heap.size z (.slice (some ⟨aC, offC, none⟩) m cap) ((putsTo z.Z (classesL z.Z z.n) k ++ rpTo z.Z l t) ++ [(x, y)]) ∧ KeptT (fun t => t ≠ 113 ∧ t ≠ 100) w4 w') := by
                  have h1 := HPUT.out w4 hn4
                  rw [show ((x : Nat) : Int) = 0 by omega] at h1
                  exact h1
                clear hn4 AT HPUT
                go_wp2_with fail
                with_reducible refine HP.out.mono ?_
                rintro e w5 ⟨rfl, hst5, hk5⟩
                have HS5 := Lib.hid hst5
                have HK5 := Lib.hid hk5
                clear hst5 hk5 HP
                go_wp2_with fail
                refine ⟨⟨t + 1, by omega, by go_num, ?_, HK5.out.own (own_new HOt.out HN4.out) (by decide)⟩, by simp [intOf] <;> omega⟩
                rw [HN2.out, ← List.append_assoc]
                exact HS5.out
            · have h2z : ((x : Int) != 0) = true := by simp; omega
              have HN2 : Hid _ := HY.out ⟨h1, .inl h2⟩
              have HP := Lib.hid (HPUT.out wr (New.refl wr))
              clear h2 HN HY HPUT AT
              go_wp2_with fail
              with_reducible refine HP.out.mono ?_
              rintro e w5 ⟨rfl, hst5, hk5⟩
              have HS5 := Lib.hid hst5
              have HK5 := Lib.hid hk5
              clear hst5 hk5 HP
              go_wp2_with fail
              refine ⟨⟨t + 1, by omega, by go_num, ?_, HK5.out.own HOt.out (by decide)⟩, by simp [intOf] <;> omega⟩
              rw [HN2.out, ← List.append_assoc]
              exact HS5.out
          · have h1z : decide ((c.length : Int) > 1) = false := decide_eq_false (by omega)
            have h1z' : ¬ (1 : Int) < c.length := by omega
            have HN2 : Hid _ := HN.out (fun e => h1 e.1)
            clear HN HY HPUT AT
            go_wp2_with fail
            refine ⟨⟨t + 1, by omega, by go_num, ?_, HOt.out⟩, by simp [intOf] <;> omega⟩
            rw [HN2.out]
            exact HSt.out
        · have htz : ¬ (t : Int) < c.length := by omega
          go_wp2_with fail
          refine ⟨⟨k + 1, by omega, by go_num, ?_⟩, by simp [intOf] <;> omega⟩
          have e1 : t = l.length := by rw [hlc.out]; omega
          have h1 := HSt.out
          rw [e1, rpTo_all, ← HPS.out] at h1
          exact h1
    · have hltz : ¬ (k : Int) < m := by omega
      have hk : k = m := by omega
      subst hk
      obtain ⟨P, hP⟩ : ∃ P, putsTo z.Z (classesL z.Z z.n) k = P := ⟨_, rfl⟩
      have hPl := putsTo_length z.Z (classesL z.Z z.n) (fun q hq => (HOK.out.2 q hq).2.1) k (by rw [HM.out]; exact Nat.le_refl _)
      have hS0 := HS.out
      rw [hP] at hPl hS0
      have HS0 := Lib.hid hS0
      have HPE := Lib.hid hP
      clear hS0 hP HS HST hltz hlt
      go_wp2_with fail
      go_loopw [78] (fun ci wr => ∃ i : Nat, i ≤ k ∧ ci = .int .i64 i ∧ Hid (FewSt w wr b w.heap.size w1.heap.size z (.slice A k cap) (P ++ pairsTo z.Z (classesL z.Z z.n) i)))
        (fun cn _ => k - (intOf cn).toNat)
      case atStart => exact ⟨0, Nat.zero_le _, rfl, by rw [show pairsTo z.Z (classesL z.Z z.n) 0 = [] from rfl, List.append_nil]; exact HS0.out⟩
      case round =>
        rename World => wo2
        obtain ⟨i, hi, rfl, HS2⟩ := hrel
        by_cases hlt2 : i < k
        · have hltz2 : (i : Int) < k := by omega
          have hl0 := HS2.out.cls
          rw [← HM.out] at hl0
          obtain ⟨vs, ⟨aC, offC, hA, hreadC⟩, hvs⟩ := hl0.reads (by rw [HM.out]; omega)
          subst hA
          have s0 := hreadC wo2 (New.refl wo2) i (by rw [HM.out]; exact hlt2)
          have hown := hvs i (by rw [HM.out]; exact hlt2)
          obtain ⟨o1, o2, o3⟩ := HOK.out.2 i (by rw [HM.out]; exact hlt2)
          have hps := pairsTo_succ z.Z (classesL z.Z z.n) i (by rw [HM.out]; exact hlt2)
          have hpl := pairsTo_length z.Z (classesL z.Z z.n) (by rw [HM.out]; exact hm9) i (by rw [HM.out]; exact hi)
          generalize hcc : (classesL z.Z z.n).getD i [] = c at hown o1 o2 o3 hps
          obtain ⟨Ac, capc, hvk⟩ := own_form hown
          rw [hvk] at s0 hown
          obtain ⟨ac, offc, hAc, _⟩ := own_reads hown o1
          subst hAc
          rw [HM.out] at hps
          have HPS := Lib.hid hps
          have HCO0 := Lib.hid hown
          obtain ⟨x, hx⟩ : ∃ x, c.getD 0 0 = x := ⟨_, rfl⟩
          have HCH := Lib.hid hx
          have HXN := Lib.hid (show x ≤ z.n from hx ▸ o3 0)
          have HHD := Lib.hid (show hd c = x from hx)
          have HC0 := Lib.hid o1
          clear hreadC hvs hown o3 hps hvk hcc hl0 hx
          go_wp2_with fail
          go_loopw [84] (fun ci wr => ∃ t : Nat, t ≤ k ∧ ci = .int .i64 t ∧ Hid (FewSt w wr b w.heap.size w1.heap.size z (.slice (some ⟨aC, offC, none⟩) k cap) ((P ++ pairsTo z.Z (classesL z.Z z.n) i) ++ pairRow z.Z (classesL z.Z z.n) x t)) ∧ Hid (wr.ownsRow w.heap.size 3 1 (.slice (some ⟨ac, offc, none⟩) c.length capc) c.length (nats c)))
            (fun cn _ => k - (intOf cn).toNat)
          case atStart => exact ⟨0, Nat.zero_le _, rfl, by rw [show pairRow z.Z (classesL z.Z z.n) x 0 = [] from rfl, List.append_nil]; exact HS2.out, HCO0.out⟩
          case round =>
            obtain ⟨t, ht, rfl, HSt, HCO⟩ := hrel
            by_cases htl : t < k
            · have htz : (t : Int) < k := by omega
              have hl0 := HSt.out.cls
              rw [← HM.out] at hl0
              obtain ⟨vs, ⟨aC', offC', hA, hreadC⟩, hvs⟩ := hl0.reads (by rw [HM.out]; omega)
              injection hA with hA
              injection hA with hA1 hA2
              subst hA1
              subst hA2
              have s0 := hreadC wr (New.refl wr) t (by rw [HM.out]; exact htl)
              have hown := hvs t (by rw [HM.out]; exact htl)
              obtain ⟨d1, d2, d3⟩ := HOK.out.2 t (by rw [HM.out]; exact htl)
              have hpr := pairRow_succ z.Z (classesL z.Z z.n) x t (by rw [HM.out]; exact htl)
              have hprl := pairRow_length z.Z (classesL z.Z z.n) x t
              have HLEN := Lib.hid (show (((P ++ pairsTo z.Z (classesL z.Z z.n) i) ++ pairRow z.Z (classesL z.Z z.n) x t)).length ≤ 200 by rw [List.length_append, List.length_append]; omega)
              generalize hcc : (classesL z.Z z.n).getD t [] = d at hown d1 d2 d3 hpr
              obtain ⟨Ad, capd, hvk⟩ := own_form hown
              rw [hvk] at s0 hown
              obtain ⟨ad, offd, hAd, hrd⟩ := own_reads hown d1
              subst hAd
              obtain ⟨y, hy⟩ : ∃ y, d.getD 0 0 = y := ⟨_, rfl⟩
              have HDH := Lib.hid hy
              have HYN := Lib.hid (show y ≤ z.n from hy ▸ d3 0)
              have hhd : hd d = y := hy
              rw [hhd] at hpr
              have HRD := Lib.hid hrd
              have HD0 := Lib.hid d1
              have hrc : ∀ W, New wr W → ∀ q, q < c.length → W.cell? ⟨ac, offc + q, none⟩ = some (.int .i64 (c.getD q 0 : Nat)) := by
                obtain ⟨ac', offc', hAc', hrc⟩ := own_reads HCO.out HC0.out
                injection hAc' with hAc'
                injection hAc' with h1 h2
                subst h1
                subst h2
                exact hrc
              have HRC := Lib.hid hrc
              have HRR := Lib.hid HSt.out.rr
              have hND : ∀ W, New wr W → Calls Try.prog 142 #[.agg #[.pointer (some ⟨b, 0, none⟩)], .int .i64 x, .slice (some ⟨ad, offd, none⟩) d.length capd, .slice (some ⟨aC, offC, none⟩) k cap] W (NeedPost (neededB z.Z x d (classesL z.Z z.n)) W) := fun W hW => by
                have h1 := needed_any b w.heap.size w.heap.size z x (some ⟨ad, offd, none⟩) (some ⟨aC, offC, none⟩) capd cap d (classesL z.Z z.n) W (HSt.out.zoneR.new hW) HC32.out HXN.out (own_new hown hW) d1 d2 d3 (hl0.new hW) HOK.out
                rw [HM.out] at h1
                exact h1
              generalize neededB z.Z x d (classesL z.Z z.n) = nb at hpr hND
              have HND := Lib.hid hND
              have hcz : (0 : Int) < c.length := by have := HC0.out; omega
              have hdz : (0 : Int) < d.length := by omega
              clear hreadC hvs hown hvk hcc hl0 hy hrd hrc hND d3 hhd
              by_cases hxy : x = y
              · have hpr2 : pairRow z.Z (classesL z.Z z.n) x (t + 1) = pairRow z.Z (classesL z.Z z.n) x t := by
                  rw [hpr, decide_eq_false (fun h => h hxy)]; simp
                have HPR := Lib.hid hpr2
                have e1 : ((x : Int) != (y : Int)) = false := by simp; omega
                clear hpr hpr2 HND
                go_wp2_with fail
                refine start_ (n := 16) (S := fun W => New wr W) (ds := []) #[false, false, false, false, false, false, false, false, false, false, false, false, false, false, false, false] (by kernel_rfl) rfl rfl (New.refl wr).drew (fun hHeld => ?_); refine with_tabW r67aTab r67aBits (fun HT_ HW_ => ?_)
                generalize wr.drew = wd at hHeld ⊢
                refine pure_ (i := 0) (N := some 88) (v := ?_) (a' := ?_) #[true, false, false, false, false, false, false, false, false, false, false, false, false, false, false, false] rfl rfl (any_of HT_.out (by kernel_rfl)) (fun _ _ _ h => h) (Or.inl ⟨by rfl, ?_⟩) ?_ ?_
                rotate_left
                · intro w'
                  go_simp
                  with_reducible rfl
                rotate_left
                · simp only [Act.put, List.setIfInBounds_toArray, List.set_cons_zero, List.set_cons_succ]
                  rfl
                refine pure_ (i := 1) (N := some 89) (v := ?_) (a' := ?_) #[true, true, false, false, false, false, false, false, false, false, false, false, false, false, false, false] rfl rfl (any_of HT_.out (by kernel_rfl)) (fun _ _ _ h => h) (Or.inl ⟨by rfl, ?_⟩) ?_ ?_
                rotate_left
                · intro w'
                  go_simp
                  with_reducible rfl
                rotate_left
                · simp only [Act.put, List.setIfInBounds_toArray, List.set_cons_zero, List.set_cons_succ]
                  rfl
                refine pure_ (i := 3) (N := some 91) (v := ?_) (a' := ?_) #[true, true, false, true, false, false, false, false, false, false, false, false, false, false, false, false] rfl rfl (any_of HT_.out (by kernel_rfl)) (fun _ _ _ h => h) (Or.inl ⟨by rfl, ?_⟩) ?_ ?_
                rotate_left
                · intro w'
                  go_simp
                  with_reducible rfl
                rotate_left
                · simp only [Act.put, List.setIfInBounds_toArray, List.set_cons_zero, List.set_cons_succ]
                  rfl
                refine pure_ (i := 4) (N := some 92) (v := ?_) (a' := ?_) #[true, true, false, true, true, false, false, false, false, false, false, false, false, false, false, false] rfl rfl (any_of HT_.out (by kernel_rfl)) (fun _ _ _ h => h) (Or.inl ⟨by rfl, ?_⟩) ?_ ?_
                rotate_left
                · intro w'
                  go_simp
                  with_reducible rfl
                rotate_left
                · simp only [Act.put, List.setIfInBounds_toArray, List.set_cons_zero, List.set_cons_succ]
                  rfl
                refine take_ (i := 2) (N := some 90) (v := ?_) (a' := ?_) #[true, true, true, true, true, false, false, false, false, false, false, false, false, false, false, false] rfl rfl (take_ofW HT_.out HW_.out (by kernel_rfl)) (fun _ _ _ h => h) (Or.inl ⟨by rfl, ?_⟩) hHeld ?_ ?_
                rotate_left
                · intro w' hkt
                  have s0 := HRC.out w' hkt 0 HC0.out
                  have s1 := HRD.out w' hkt 0 HD0.out
                  have s2 := (hkt.row HRR.out).cell 0
                  rw [Nat.add_zero, HCH.out] at s0
                  rw [Nat.add_zero, HDH.out] at s1
                  simp only [List.getElem?_cons_zero] at s2
                  go_simp
                  with_reducible rfl
                rotate_left
                · simp only [Act.put, List.setIfInBounds_toArray, List.set_cons_zero, List.set_cons_succ]
                  rfl
                refine take_ (i := 5) (N := some 93) (v := ?_) (a' := ?_) #[true, true, true, true, true, true, false, false, false, false, false, false, false, false, false, false] rfl rfl (take_ofW HT_.out HW_.out (by kernel_rfl)) (fun _ _ _ h => h) (Or.inl ⟨by rfl, ?_⟩) hHeld ?_ ?_
                rotate_left
                · intro w' hkt
                  have s0 := HRC.out w' hkt 0 HC0.out
                  have s1 := HRD.out w' hkt 0 HD0.out
                  have s2 := (hkt.row HRR.out).cell 0
                  rw [Nat.add_zero, HCH.out] at s0
                  rw [Nat.add_zero, HDH.out] at s1
                  simp only [List.getElem?_cons_zero] at s2
                  go_simp
                  with_reducible rfl
                rotate_left
                · simp only [Act.put, List.setIfInBounds_toArray, List.set_cons_zero, List.set_cons_succ]
                  rfl
                refine pure_ (i := 6) (N := some 94) (v := ?_) (a' := ?_) #[true, true, true, true, true, true, true, false, false, false, false, false, false, false, false, false] rfl rfl (any_of HT_.out (by kernel_rfl)) (fun _ _ _ h => h) (Or.inl ⟨by rfl, ?_⟩) ?_ ?_
                rotate_left
                · intro w'
                  go_simp
                  with_reducible rfl
                rotate_left
                · simp only [Act.put, List.setIfInBounds_toArray, List.set_cons_zero, List.set_cons_succ]
                  rfl
                refine pure_ (i := 7) (N := some 95) (v := ?_) (a' := ?_) #[true, true, true, true, true, true, true, true, false, false, false, false, false, false, false, false] rfl rfl (any_of HT_.out (by kernel_rfl)) (fun _ _ _ h => h) (Or.inl ⟨by rfl, ?_⟩) ?_ ?_
                rotate_left
                · intro w'
                  go_simp
                  with_reducible rfl
                rotate_left
                · simp only [Act.put, List.setIfInBounds_toArray, List.set_cons_zero, List.set_cons_succ]
                  rfl
                refine pure_ (i := 8) (N := some 96) (v := undef) (a' := ?_) #[true, true, true, true, true, true, true, true, true, false, false, false, false, false, false, false] rfl rfl (any_of HT_.out (by kernel_rfl)) (fun _ _ _ h => h) (Or.inr ⟨by rfl, rfl⟩) ?_ ?_
                rotate_left
                · simp only [Act.put, List.setIfInBounds_toArray, List.set_cons_zero, List.set_cons_succ]
                  rfl
                refine pure_ (i := 9) (N := some 97) (v := undef) (a' := ?_) #[true, true, true, true, true, true, true, true, true, true, false, false, false, false, false, false] rfl rfl (any_of HT_.out (by kernel_rfl)) (fun _ _ _ h => h) (Or.inr ⟨by rfl, rfl⟩) ?_ ?_
                rotate_left
                · simp only [Act.put, List.setIfInBounds_toArray, List.set_cons_zero, List.set_cons_succ]
                  rfl
                refine pure_ (i := 10) (N := some 98) (v := undef) (a' := ?_) #[true, true, true, true, true, true, true, true, true, true, true, false, false, false, false, false] rfl rfl (any_of HT_.out (by kernel_rfl)) (fun _ _ _ h => h) (Or.inr ⟨by rfl, rfl⟩) ?_ ?_
                rotate_left
                · simp only [Act.put, List.setIfInBounds_toArray, List.set_cons_zero, List.set_cons_succ]
                  rfl
                refine pure_ (i := 11) (N := some 99) (v := undef) (a' := ?_) #[true, true, true, true, true, true, true, true, true, true, true, true, false, false, false, false] rfl rfl (any_of HT_.out (by kernel_rfl)) (fun _ _ _ h => h) (Or.inr ⟨by rfl, rfl⟩) ?_ ?_
                rotate_left
                · simp only [Act.put, List.setIfInBounds_toArray, List.set_cons_zero, List.set_cons_succ]
                  rfl
                refine pure_ (i := 12) (N := some 100) (v := undef) (a' := ?_) #[true, true, true, true, true, true, true, true, true, true, true, true, true, false, false, false] rfl rfl (any_of HT_.out (by kernel_rfl)) (fun _ _ _ h => h) (Or.inr ⟨by rfl, rfl⟩) ?_ ?_
                rotate_left
                · simp only [Act.put, List.setIfInBounds_toArray, List.set_cons_zero, List.set_cons_succ]
                  rfl
                refine pure_ (i := 13) (N := some 101) (v := undef) (a' := ?_) #[true, true, true, true, true, true, true, true, true, true, true, true, true, true, false, false] rfl rfl (any_of HT_.out (by kernel_rfl)) (fun _ _ _ h => h) (Or.inr ⟨by rfl, rfl⟩) ?_ ?_
                rotate_left
                · simp only [Act.put, List.setIfInBounds_toArray, List.set_cons_zero, List.set_cons_succ]
                  rfl
                refine pure_ (i := 14) (N := some 102) (v := undef) (a' := ?_) #[true, true, true, true, true, true, true, true, true, true, true, true, true, true, true, false] rfl rfl (any_of HT_.out (by kernel_rfl)) (fun _ _ _ h => h) (Or.inr ⟨by rfl, rfl⟩) ?_ ?_
                rotate_left
                · simp only [Act.put, List.setIfInBounds_toArray, List.set_cons_zero, List.set_cons_succ]
                  rfl
                refine pure_ (i := 15) (N := some 103) (v := ?_) (a' := ?_) #[true, true, true, true, true, true, true, true, true, true, true, true, true, true, true, true] rfl rfl (any_of HT_.out (by kernel_rfl)) (fun _ _ _ h => h) (Or.inl ⟨by rfl, ?_⟩) ?_ ?_
                rotate_left
                · intro w'
                  go_simp
                  with_reducible rfl
                rotate_left
                · simp only [Act.put, List.setIfInBounds_toArray, List.set_cons_zero, List.set_cons_succ]
                  rfl
                refine done_ (done_of HT_.out (by kernel_rfl)) ?_
                go_wp2_with fail
                refine ⟨⟨t + 1, by omega, by go_num, ?_, own_new HCO.out hHeld⟩, by simp [intOf] <;> omega⟩
                rw [HPR.out]
                exact HSt.out.step hHeld
              · rw [decide_eq_true hxy, Bool.true_and] at hpr
                have e1 : ((x : Int) != (y : Int)) = true := by simp; omega
                cases nb
                · simp only [Bool.false_eq_true, if_false, List.append_nil] at hpr
                  have HPR := Lib.hid hpr
                  clear hpr hxy
                  go_wp2_with fail
                  refine start_ (n := 16) (S := fun W => New wr W) (ds := []) #[false, false, false, false, false, false, false, false, false, false, false, false, false, false, false, false] (by kernel_rfl) rfl rfl (New.refl wr).drew (fun hHeld => ?_); refine with_tabW r67aTab r67aBits (fun HT_ HW_ => ?_)
                  generalize wr.drew = wd at hHeld ⊢
                  refine pure_ (i := 0) (N := some 88) (v := ?_) (a' := ?_) #[true, false, false, false, false, false, false, false, false, false, false, false, false, false, false, false] rfl rfl (any_of HT_.out (by kernel_rfl)) (fun _ _ _ h => h) (Or.inl ⟨by rfl, ?_⟩) ?_ ?_
                  rotate_left
                  · intro w'
                    go_simp
                    with_reducible rfl
                  rotate_left
                  · simp only [Act.put, List.setIfInBounds_toArray, List.set_cons_zero, List.set_cons_succ]
                    rfl
                  refine pure_ (i := 1) (N := some 89) (v := ?_) (a' := ?_) #[true, true, false, false, false, false, false, false, false, false, false, false, false, false, false, false] rfl rfl (any_of HT_.out (by kernel_rfl)) (fun _ _ _ h => h) (Or.inl ⟨by rfl, ?_⟩) ?_ ?_
                  rotate_left
                  · intro w'
                    go_simp
                    with_reducible rfl
                  rotate_left
                  · simp only [Act.put, List.setIfInBounds_toArray, List.set_cons_zero, List.set_cons_succ]
                    rfl
                  refine pure_ (i := 3) (N := some 91) (v := ?_) (a' := ?_) #[true, true, false, true, false, false, false, false, false, false, false, false, false, false, false, false] rfl rfl (any_of HT_.out (by kernel_rfl)) (fun _ _ _ h => h) (Or.inl ⟨by rfl, ?_⟩) ?_ ?_
                  rotate_left
                  · intro w'
                    go_simp
                    with_reducible rfl
                  rotate_left
                  · simp only [Act.put, List.setIfInBounds_toArray, List.set_cons_zero, List.set_cons_succ]
                    rfl
                  refine pure_ (i := 4) (N := some 92) (v := ?_) (a' := ?_) #[true, true, false, true, true, false, false, false, false, false, false, false, false, false, false, false] rfl rfl (any_of HT_.out (by kernel_rfl)) (fun _ _ _ h => h) (Or.inl ⟨by rfl, ?_⟩) ?_ ?_
                  rotate_left
                  · intro w'
                    go_simp
                    with_reducible rfl
                  rotate_left
                  · simp only [Act.put, List.setIfInBounds_toArray, List.set_cons_zero, List.set_cons_succ]
                    rfl
                  refine take_ (i := 2) (N := some 90) (v := ?_) (a' := ?_) #[true, true, true, true, true, false, false, false, false, false, false, false, false, false, false, false] rfl rfl (take_ofW HT_.out HW_.out (by kernel_rfl)) (fun _ _ _ h => h) (Or.inl ⟨by rfl, ?_⟩) hHeld ?_ ?_
                  rotate_left
                  · intro w' hkt
                    have s0 := HRC.out w' hkt 0 HC0.out
                    have s1 := HRD.out w' hkt 0 HD0.out
                    have s2 := (hkt.row HRR.out).cell 0
                    rw [Nat.add_zero, HCH.out] at s0
                    rw [Nat.add_zero, HDH.out] at s1
                    simp only [List.getElem?_cons_zero] at s2
                    go_simp
                    with_reducible rfl
                  rotate_left
                  · simp only [Act.put, List.setIfInBounds_toArray, List.set_cons_zero, List.set_cons_succ]
                    rfl
                  refine take_ (i := 5) (N := some 93) (v := ?_) (a' := ?_) #[true, true, true, true, true, true, false, false, false, false, false, false, false, false, false, false] rfl rfl (take_ofW HT_.out HW_.out (by kernel_rfl)) (fun _ _ _ h => h) (Or.inl ⟨by rfl, ?_⟩) hHeld ?_ ?_
                  rotate_left
                  · intro w' hkt
                    have s0 := HRC.out w' hkt 0 HC0.out
                    have s1 := HRD.out w' hkt 0 HD0.out
                    have s2 := (hkt.row HRR.out).cell 0
                    rw [Nat.add_zero, HCH.out] at s0
                    rw [Nat.add_zero, HDH.out] at s1
                    simp only [List.getElem?_cons_zero] at s2
                    go_simp
                    with_reducible rfl
                  rotate_left
                  · simp only [Act.put, List.setIfInBounds_toArray, List.set_cons_zero, List.set_cons_succ]
                    rfl
                  refine pure_ (i := 6) (N := some 94) (v := ?_) (a' := ?_) #[true, true, true, true, true, true, true, false, false, false, false, false, false, false, false, false] rfl rfl (any_of HT_.out (by kernel_rfl)) (fun _ _ _ h => h) (Or.inl ⟨by rfl, ?_⟩) ?_ ?_
                  rotate_left
                  · intro w'
                    go_simp
                    with_reducible rfl
                  rotate_left
                  · simp only [Act.put, List.setIfInBounds_toArray, List.set_cons_zero, List.set_cons_succ]
                    rfl
                  refine pure_ (i := 7) (N := some 95) (v := ?_) (a' := ?_) #[true, true, true, true, true, true, true, true, false, false, false, false, false, false, false, false] rfl rfl (any_of HT_.out (by kernel_rfl)) (fun _ _ _ h => h) (Or.inl ⟨by rfl, ?_⟩) ?_ ?_
                  rotate_left
                  · intro w'
                    go_simp
                    with_reducible rfl
                  rotate_left
                  · simp only [Act.put, List.setIfInBounds_toArray, List.set_cons_zero, List.set_cons_succ]
                    rfl
                  refine pure_ (i := 9) (N := some 97) (v := ?_) (a' := ?_) #[true, true, true, true, true, true, true, true, false, true, false, false, false, false, false, false] rfl rfl (any_of HT_.out (by kernel_rfl)) (fun _ _ _ h => h) (Or.inl ⟨by rfl, ?_⟩) ?_ ?_
                  rotate_left
                  · intro w'
                    go_simp
                    with_reducible rfl
                  rotate_left
                  · simp only [Act.put, List.setIfInBounds_toArray, List.set_cons_zero, List.set_cons_succ]
                    rfl
                  refine pure_ (i := 10) (N := some 98) (v := ?_) (a' := ?_) #[true, true, true, true, true, true, true, true, false, true, true, false, false, false, false, false] rfl rfl (any_of HT_.out (by kernel_rfl)) (fun _ _ _ h => h) (Or.inl ⟨by rfl, ?_⟩) ?_ ?_
                  rotate_left
                  · intro w'
                    go_simp
                    with_reducible rfl
                  rotate_left
                  · simp only [Act.put, List.setIfInBounds_toArray, List.set_cons_zero, List.set_cons_succ]
                    rfl
                  refine pure_ (i := 12) (N := some 100) (v := ?_) (a' := ?_) #[true, true, true, true, true, true, true, true, false, true, true, false, true, false, false, false] rfl rfl (any_of HT_.out (by kernel_rfl)) (fun _ _ _ h => h) (Or.inl ⟨by rfl, ?_⟩) ?_ ?_
                  rotate_left
                  · intro w'
                    go_simp
                    with_reducible rfl
                  rotate_left
                  · simp only [Act.put, List.setIfInBounds_toArray, List.set_cons_zero, List.set_cons_succ]
                    rfl
                  refine pure_ (i := 13) (N := some 101) (v := ?_) (a' := ?_) #[true, true, true, true, true, true, true, true, false, true, true, false, true, true, false, false] rfl rfl (any_of HT_.out (by kernel_rfl)) (fun _ _ _ h => h) (Or.inl ⟨by rfl, ?_⟩) ?_ ?_
                  rotate_left
                  · intro w'
                    go_simp
                    with_reducible rfl
                  rotate_left
                  · simp only [Act.put, List.setIfInBounds_toArray, List.set_cons_zero, List.set_cons_succ]
                    rfl
                  refine take_ (i := 8) (N := some 96) (v := ?_) (a' := ?_) #[true, true, true, true, true, true, true, true, true, true, true, false, true, true, false, false] rfl rfl (take_ofW HT_.out HW_.out (by kernel_rfl)) (fun _ _ _ h => h) (Or.inl ⟨by rfl, ?_⟩) hHeld ?_ ?_
                  rotate_left
                  · intro w' hkt
                    have s0 := HRC.out w' hkt 0 HC0.out
                    have s1 := HRD.out w' hkt 0 HD0.out
                    have s2 := (hkt.row HRR.out).cell 0
                    rw [Nat.add_zero, HCH.out] at s0
                    rw [Nat.add_zero, HDH.out] at s1
                    simp only [List.getElem?_cons_zero] at s2
                    go_simp
                    with_reducible rfl
                  rotate_left
                  · simp only [Act.put, List.setIfInBounds_toArray, List.set_cons_zero, List.set_cons_succ]
                    rfl
                  refine take_ (i := 11) (N := some 99) (v := ?_) (a' := ?_) #[true, true, true, true, true, true, true, true, true, true, true, true, true, true, false, false] rfl rfl (take_ofW HT_.out HW_.out (by kernel_rfl)) (fun _ _ _ h => h) (Or.inl ⟨by rfl, ?_⟩) hHeld ?_ ?_
                  rotate_left
                  · intro w' hkt
                    have s0 := HRC.out w' hkt 0 HC0.out
                    have s1 := HRD.out w' hkt 0 HD0.out
                    have s2 := (hkt.row HRR.out).cell 0
                    rw [Nat.add_zero, HCH.out] at s0
                    rw [Nat.add_zero, HDH.out] at s1
                    simp only [List.getElem?_cons_zero] at s2
                    go_simp
                    with_reducible rfl
                  rotate_left
                  · simp only [Act.put, List.setIfInBounds_toArray, List.set_cons_zero, List.set_cons_succ]
                    rfl
                  refine one_ (i := 14) (N := some 102) #[true, true, true, true, true, true, true, true, true, true, true, true, true, true, true, false] rfl rfl (one_of HT_.out (by kernel_rfl)) (by decide) (fun K hK => ?_)
                  refine goes_ Try.func142 (by kernel_rfl) rfl #[.agg #[.pointer (some ⟨b, 0, none⟩)], .int .i64 x, .slice (some ⟨ad, offd, none⟩) d.length capd, .slice (some ⟨aC, offC, none⟩) k cap] (by rfl) rfl rfl (by (try simp only [List.map_toArray, List.map_cons, List.map_nil]); first | done | rfl) ?_
                  refine (HND.out _ hHeld).mono ?_
                  rintro e w4 ⟨rfl, hn4⟩
                  refine ⟨_, rfl, ?_⟩
                  refine hK.out _ _ (hHeld.trans hn4) (fun hHeld => ?_)
                  clear hK K
                  refine norm_ (a' := ?_) ?_ ?_
                  rotate_left
                  · show Act.put _ (some 102) _ = _
                    simp only [Act.put, List.setIfInBounds_toArray, List.set_cons_zero, List.set_cons_succ]
                    rfl
                  refine pure_ (i := 15) (N := some 103) (v := ?_) (a' := ?_) #[true, true, true, true, true, true, true, true, true, true, true, true, true, true, true, true] rfl rfl (any_of HT_.out (by kernel_rfl)) (fun _ _ _ h => h) (Or.inl ⟨by rfl, ?_⟩) ?_ ?_
                  rotate_left
                  · intro w'
                    go_simp
                    with_reducible rfl
                  rotate_left
                  · simp only [Act.put, List.setIfInBounds_toArray, List.set_cons_zero, List.set_cons_succ]
                    rfl
                  refine done_ (done_of HT_.out (by kernel_rfl)) ?_
                  go_wp2_with fail
                  refine ⟨⟨t + 1, by omega, by go_num, ?_, own_new HCO.out hHeld⟩, by simp [intOf] <;> omega⟩
                  rw [HPR.out]
                  exact HSt.out.step hHeld
                · have HPR := Lib.hid hpr
                  clear hpr hxy
                  go_wp2_with fail
                  refine start_ (n := 16) (S := fun W => New wr W) (ds := []) #[false, false, false, false, false, false, false, false, false, false, false, false, false, false, false, false] (by kernel_rfl) rfl rfl (New.refl wr).drew (fun hHeld => ?_); refine with_tabW r67aTab r67aBits (fun HT_ HW_ => ?_)
                  generalize wr.drew = wd at hHeld ⊢
                  refine pure_ (i := 0) (N := some 88) (v := ?_) (a' := ?_) #[true, false, false, false, false, false, false, false, false, false, false, false, false, false, false, false] rfl rfl (any_of HT_.out (by kernel_rfl)) (fun _ _ _ h => h) (Or.inl ⟨by rfl, ?_⟩) ?_ ?_
                  rotate_left
                  · intro w'
                    go_simp
                    with_reducible rfl
                  rotate_left
                  · simp only [Act.put, List.setIfInBounds_toArray, List.set_cons_zero, List.set_cons_succ]
                    rfl
                  refine pure_ (i := 1) (N := some 89) (v := ?_) (a' := ?_) #[true, true, false, false, false, false, false, false, false, false, false, false, false, false, false, false] rfl rfl (any_of HT_.out (by kernel_rfl)) (fun _ _ _ h => h) (Or.inl ⟨by rfl, ?_⟩) ?_ ?_
                  rotate_left
                  · intro w'
                    go_simp
                    with_reducible rfl
                  rotate_left
                  · simp only [Act.put, List.setIfInBounds_toArray, List.set_cons_zero, List.set_cons_succ]
                    rfl
                  refine pure_ (i := 3) (N := some 91) (v := ?_) (a' := ?_) #[true, true, false, true, false, false, false, false, false, false, false, false, false, false, false, false] rfl rfl (any_of HT_.out (by kernel_rfl)) (fun _ _ _ h => h) (Or.inl ⟨by rfl, ?_⟩) ?_ ?_
                  rotate_left
                  · intro w'
                    go_simp
                    with_reducible rfl
                  rotate_left
                  · simp only [Act.put, List.setIfInBounds_toArray, List.set_cons_zero, List.set_cons_succ]
                    rfl
                  refine pure_ (i := 4) (N := some 92) (v := ?_) (a' := ?_) #[true, true, false, true, true, false, false, false, false, false, false, false, false, false, false, false] rfl rfl (any_of HT_.out (by kernel_rfl)) (fun _ _ _ h => h) (Or.inl ⟨by rfl, ?_⟩) ?_ ?_
                  rotate_left
                  · intro w'
                    go_simp
                    with_reducible rfl
                  rotate_left
                  · simp only [Act.put, List.setIfInBounds_toArray, List.set_cons_zero, List.set_cons_succ]
                    rfl
                  refine take_ (i := 2) (N := some 90) (v := ?_) (a' := ?_) #[true, true, true, true, true, false, false, false, false, false, false, false, false, false, false, false] rfl rfl (take_ofW HT_.out HW_.out (by kernel_rfl)) (fun _ _ _ h => h) (Or.inl ⟨by rfl, ?_⟩) hHeld ?_ ?_
                  rotate_left
                  · intro w' hkt
                    have s0 := HRC.out w' hkt 0 HC0.out
                    have s1 := HRD.out w' hkt 0 HD0.out
                    have s2 := (hkt.row HRR.out).cell 0
                    rw [Nat.add_zero, HCH.out] at s0
                    rw [Nat.add_zero, HDH.out] at s1
                    simp only [List.getElem?_cons_zero] at s2
                    go_simp
                    with_reducible rfl
                  rotate_left
                  · simp only [Act.put, List.setIfInBounds_toArray, List.set_cons_zero, List.set_cons_succ]
                    rfl
                  refine take_ (i := 5) (N := some 93) (v := ?_) (a' := ?_) #[true, true, true, true, true, true, false, false, false, false, false, false, false, false, false, false] rfl rfl (take_ofW HT_.out HW_.out (by kernel_rfl)) (fun _ _ _ h => h) (Or.inl ⟨by rfl, ?_⟩) hHeld ?_ ?_
                  rotate_left
                  · intro w' hkt
                    have s0 := HRC.out w' hkt 0 HC0.out
                    have s1 := HRD.out w' hkt 0 HD0.out
                    have s2 := (hkt.row HRR.out).cell 0
                    rw [Nat.add_zero, HCH.out] at s0
                    rw [Nat.add_zero, HDH.out] at s1
                    simp only [List.getElem?_cons_zero] at s2
                    go_simp
                    with_reducible rfl
                  rotate_left
                  · simp only [Act.put, List.setIfInBounds_toArray, List.set_cons_zero, List.set_cons_succ]
                    rfl
                  refine pure_ (i := 6) (N := some 94) (v := ?_) (a' := ?_) #[true, true, true, true, true, true, true, false, false, false, false, false, false, false, false, false] rfl rfl (any_of HT_.out (by kernel_rfl)) (fun _ _ _ h => h) (Or.inl ⟨by rfl, ?_⟩) ?_ ?_
                  rotate_left
                  · intro w'
                    go_simp
                    with_reducible rfl
                  rotate_left
                  · simp only [Act.put, List.setIfInBounds_toArray, List.set_cons_zero, List.set_cons_succ]
                    rfl
                  refine pure_ (i := 7) (N := some 95) (v := ?_) (a' := ?_) #[true, true, true, true, true, true, true, true, false, false, false, false, false, false, false, false] rfl rfl (any_of HT_.out (by kernel_rfl)) (fun _ _ _ h => h) (Or.inl ⟨by rfl, ?_⟩) ?_ ?_
                  rotate_left
                  · intro w'
                    go_simp
                    with_reducible rfl
                  rotate_left
                  · simp only [Act.put, List.setIfInBounds_toArray, List.set_cons_zero, List.set_cons_succ]
                    rfl
                  refine pure_ (i := 9) (N := some 97) (v := ?_) (a' := ?_) #[true, true, true, true, true, true, true, true, false, true, false, false, false, false, false, false] rfl rfl (any_of HT_.out (by kernel_rfl)) (fun _ _ _ h => h) (Or.inl ⟨by rfl, ?_⟩) ?_ ?_
                  rotate_left
                  · intro w'
                    go_simp
                    with_reducible rfl
                  rotate_left
                  · simp only [Act.put, List.setIfInBounds_toArray, List.set_cons_zero, List.set_cons_succ]
                    rfl
                  refine pure_ (i := 10) (N := some 98) (v := ?_) (a' := ?_) #[true, true, true, true, true, true, true, true, false, true, true, false, false, false, false, false] rfl rfl (any_of HT_.out (by kernel_rfl)) (fun _ _ _ h => h) (Or.inl ⟨by rfl, ?_⟩) ?_ ?_
                  rotate_left
                  · intro w'
                    go_simp
                    with_reducible rfl
                  rotate_left
                  · simp only [Act.put, List.setIfInBounds_toArray, List.set_cons_zero, List.set_cons_succ]
                    rfl
                  refine pure_ (i := 12) (N := some 100) (v := ?_) (a' := ?_) #[true, true, true, true, true, true, true, true, false, true, true, false, true, false, false, false] rfl rfl (any_of HT_.out (by kernel_rfl)) (fun _ _ _ h => h) (Or.inl ⟨by rfl, ?_⟩) ?_ ?_
                  rotate_left
                  · intro w'
                    go_simp
                    with_reducible rfl
                  rotate_left
                  · simp only [Act.put, List.setIfInBounds_toArray, List.set_cons_zero, List.set_cons_succ]
                    rfl
                  refine pure_ (i := 13) (N := some 101) (v := ?_) (a' := ?_) #[true, true, true, true, true, true, true, true, false, true, true, false, true, true, false, false] rfl rfl (any_of HT_.out (by kernel_rfl)) (fun _ _ _ h => h) (Or.inl ⟨by rfl, ?_⟩) ?_ ?_
                  rotate_left
                  · intro w'
                    go_simp
                    with_reducible rfl
                  rotate_left
                  · simp only [Act.put, List.setIfInBounds_toArray, List.set_cons_zero, List.set_cons_succ]
                    rfl
                  refine take_ (i := 8) (N := some 96) (v := ?_) (a' := ?_) #[true, true, true, true, true, true, true, true, true, true, true, false, true, true, false, false] rfl rfl (take_ofW HT_.out HW_.out (by kernel_rfl)) (fun _ _ _ h => h) (Or.inl ⟨by rfl, ?_⟩) hHeld ?_ ?_
                  rotate_left
                  · intro w' hkt
                    have s0 := HRC.out w' hkt 0 HC0.out
                    have s1 := HRD.out w' hkt 0 HD0.out
                    have s2 := (hkt.row HRR.out).cell 0
                    rw [Nat.add_zero, HCH.out] at s0
                    rw [Nat.add_zero, HDH.out] at s1
                    simp only [List.getElem?_cons_zero] at s2
                    go_simp
                    with_reducible rfl
                  rotate_left
                  · simp only [Act.put, List.setIfInBounds_toArray, List.set_cons_zero, List.set_cons_succ]
                    rfl
                  refine take_ (i := 11) (N := some 99) (v := ?_) (a' := ?_) #[true, true, true, true, true, true, true, true, true, true, true, true, true, true, false, false] rfl rfl (take_ofW HT_.out HW_.out (by kernel_rfl)) (fun _ _ _ h => h) (Or.inl ⟨by rfl, ?_⟩) hHeld ?_ ?_
                  rotate_left
                  · intro w' hkt
                    have s0 := HRC.out w' hkt 0 HC0.out
                    have s1 := HRD.out w' hkt 0 HD0.out
                    have s2 := (hkt.row HRR.out).cell 0
                    rw [Nat.add_zero, HCH.out] at s0
                    rw [Nat.add_zero, HDH.out] at s1
                    simp only [List.getElem?_cons_zero] at s2
                    go_simp
                    with_reducible rfl
                  rotate_left
                  · simp only [Act.put, List.setIfInBounds_toArray, List.set_cons_zero, List.set_cons_succ]
                    rfl
                  refine one_ (i := 14) (N := some 102) #[true, true, true, true, true, true, true, true, true, true, true, true, true, true, true, false] rfl rfl (one_of HT_.out (by kernel_rfl)) (by decide) (fun K hK => ?_)
                  refine goes_ Try.func142 (by kernel_rfl) rfl #[.agg #[.pointer (some ⟨b, 0, none⟩)], .int .i64 x, .slice (some ⟨ad, offd, none⟩) d.length capd, .slice (some ⟨aC, offC, none⟩) k cap] (by rfl) rfl rfl (by (try simp only [List.map_toArray, List.map_cons, List.map_nil]); first | done | rfl) ?_
                  refine (HND.out _ hHeld).mono ?_
                  rintro e w4 ⟨rfl, hn4⟩
                  refine ⟨_, rfl, ?_⟩
                  refine hK.out _ _ (hHeld.trans hn4) (fun hHeld => ?_)
                  clear hK K
                  refine norm_ (a' := ?_) ?_ ?_
                  rotate_left
                  · show Act.put _ (some 102) _ = _
                    simp only [Act.put, List.setIfInBounds_toArray, List.set_cons_zero, List.set_cons_succ]
                    rfl
                  refine pure_ (i := 15) (N := some 103) (v := ?_) (a' := ?_) #[true, true, true, true, true, true, true, true, true, true, true, true, true, true, true, true] rfl rfl (any_of HT_.out (by kernel_rfl)) (fun _ _ _ h => h) (Or.inl ⟨by rfl, ?_⟩) ?_ ?_
                  rotate_left
                  · intro w'
                    go_simp
                    with_reducible rfl
                  rotate_left
                  · simp only [Act.put, List.setIfInBounds_toArray, List.set_cons_zero, List.set_cons_succ]
                    rfl
                  refine done_ (done_of HT_.out (by kernel_rfl)) ?_
                  go_wp2_with fail
                  refine start_ (n := 8) (S := fun W => New wr W) (ds := [7]) #[false, false, false, false, false, false, false, false] (by kernel_rfl) rfl rfl hHeld.drew (fun hHeld => ?_); refine with_tabW r67bTab r67bBits (fun HT_ HW_ => ?_)
                  generalize w4.drew = w6 at hHeld ⊢
                  refine pure_ (i := 0) (N := some 104) (v := ?_) (a' := ?_) #[true, false, false, false, false, false, false, false] rfl rfl (any_of HT_.out (by kernel_rfl)) (fun _ _ _ h => h) (Or.inl ⟨by rfl, ?_⟩) ?_ ?_
                  rotate_left
                  · intro w'
                    go_simp
                    with_reducible rfl
                  rotate_left
                  · simp only [Act.put, List.setIfInBounds_toArray, List.set_cons_zero, List.set_cons_succ]
                    rfl
                  refine pure_ (i := 1) (N := some 105) (v := ?_) (a' := ?_) #[true, true, false, false, false, false, false, false] rfl rfl (any_of HT_.out (by kernel_rfl)) (fun _ _ _ h => h) (Or.inl ⟨by rfl, ?_⟩) ?_ ?_
                  rotate_left
                  · intro w'
                    go_simp
                    with_reducible rfl
                  rotate_left
                  · simp only [Act.put, List.setIfInBounds_toArray, List.set_cons_zero, List.set_cons_succ]
                    rfl
                  refine pure_ (i := 2) (N := some 106) (v := ?_) (a' := ?_) #[true, true, true, false, false, false, false, false] rfl rfl (any_of HT_.out (by kernel_rfl)) (fun _ _ _ h => h) (Or.inl ⟨by rfl, ?_⟩) ?_ ?_
                  rotate_left
                  · intro w'
                    go_simp
                    with_reducible rfl
                  rotate_left
                  · simp only [Act.put, List.setIfInBounds_toArray, List.set_cons_zero, List.set_cons_succ]
                    rfl
                  refine pure_ (i := 4) (N := some 108) (v := ?_) (a' := ?_) #[true, true, true, false, true, false, false, false] rfl rfl (any_of HT_.out (by kernel_rfl)) (fun _ _ _ h => h) (Or.inl ⟨by rfl, ?_⟩) ?_ ?_
                  rotate_left
                  · intro w'
                    go_simp
                    with_reducible rfl
                  rotate_left
                  · simp only [Act.put, List.setIfInBounds_toArray, List.set_cons_zero, List.set_cons_succ]
                    rfl
                  refine pure_ (i := 5) (N := some 109) (v := ?_) (a' := ?_) #[true, true, true, false, true, true, false, false] rfl rfl (any_of HT_.out (by kernel_rfl)) (fun _ _ _ h => h) (Or.inl ⟨by rfl, ?_⟩) ?_ ?_
                  rotate_left
                  · intro w'
                    go_simp
                    with_reducible rfl
                  rotate_left
                  · simp only [Act.put, List.setIfInBounds_toArray, List.set_cons_zero, List.set_cons_succ]
                    rfl
                  refine take_ (i := 3) (N := some 107) (v := ?_) (a' := ?_) #[true, true, true, true, true, true, false, false] rfl rfl (take_ofW HT_.out HW_.out (by kernel_rfl)) (fun _ _ _ h => h) (Or.inl ⟨by rfl, ?_⟩) hHeld ?_ ?_
                  rotate_left
                  · intro w' hkt
                    have s0 := HRC.out w' hkt 0 HC0.out
                    have s1 := HRD.out w' hkt 0 HD0.out
                    rw [Nat.add_zero, HCH.out] at s0
                    rw [Nat.add_zero, HDH.out] at s1
                    go_simp
                    with_reducible rfl
                  rotate_left
                  · simp only [Act.put, List.setIfInBounds_toArray, List.set_cons_zero, List.set_cons_succ]
                    rfl
                  refine take_ (i := 6) (N := some 110) (v := ?_) (a' := ?_) #[true, true, true, true, true, true, true, false] rfl rfl (take_ofW HT_.out HW_.out (by kernel_rfl)) (fun _ _ _ h => h) (Or.inl ⟨by rfl, ?_⟩) hHeld ?_ ?_
                  rotate_left
                  · intro w' hkt
                    have s0 := HRC.out w' hkt 0 HC0.out
                    have s1 := HRD.out w' hkt 0 HD0.out
                    rw [Nat.add_zero, HCH.out] at s0
                    rw [Nat.add_zero, HDH.out] at s1
                    go_simp
                    with_reducible rfl
                  rotate_left
                  · simp only [Act.put, List.setIfInBounds_toArray, List.set_cons_zero, List.set_cons_succ]
                    rfl
                  refine last_ (i := 7) (N := some 111) #[true, true, true, true, true, true, true, true] rfl rfl (one_of HT_.out (by kernel_rfl)) (by decide) (fun K hK => ?_)
                  refine call_ 139 #[.int .i64 x, .int .i64 y, .pointer (some ⟨w1.heap.size, 0, none⟩), .pointer (some ⟨w.heap.size, 0, none⟩)] (by rfl) rfl (by
                    have he := enters_ Try.func139 (by kernel_rfl) rfl #[.int .i64 x, .int .i64 y, .pointer (some ⟨w1.heap.size, 0, none⟩), .pointer (some ⟨w.heap.size, 0, none⟩)]
                    unfold execOp
                    simp [resolve, Deferred.ofValue, invoke, Act.eval, he]) ?_
                  refine ((HSt.out.step hHeld).put HLEN.out x y HXN.out HYN.out).mono ?_
                  rintro e w7 ⟨rfl, hst7, hk7⟩
                  refine ⟨_, rfl, ?_⟩
                  have HCO7 := Lib.hid (hk7.own (own_new HCO.out hHeld) (by decide))
                  have HST7 := Lib.hid hst7
                  clear hst7 hk7
                  refine hK.out _ _ ?_
                  clear hK K
                  refine norm_ (a' := ?_) ?_ ?_
                  rotate_left
                  · show Act.put _ (some 111) _ = _
                    simp only [Act.put, List.setIfInBounds_toArray, List.set_cons_zero, List.set_cons_succ]
                    rfl
                  refine done_ (done_of HT_.out (by kernel_rfl)) ?_
                  go_wp2_with fail
                  refine ⟨⟨t + 1, by omega, by go_num, ?_, HCO7.out⟩, by simp [intOf] <;> omega⟩
                  rw [HPR.out, ← List.append_assoc]
                  exact HST7.out
            · have htz : ¬ (t : Int) < k := by omega
              go_wp2_with fail
              refine ⟨⟨i + 1, by omega, by go_num, ?_⟩, by simp [intOf] <;> omega⟩
              have e1 : t = k := by omega
              have h1 := HSt.out
              rw [e1, ← HHD.out, List.append_assoc, ← HPS.out] at h1
              exact h1
        · have hltz2 : ¬ (i : Int) < k := by omega
          have hik : i = k := by omega
          obtain ⟨v, hgo, ho⟩ := HS2.out.out
          have cgo : wo2.cell? ⟨w1.heap.size, 0, none⟩ = some v := hgo.cell 0
          have HGO := Lib.hid ho
          have HIK := Lib.hid hik
          obtain ⟨Av, cv, rfl⟩ := own_form ho
          clear hgo ho hik
          go_wp2_with fail
          go_ret2
          have h1 := HGO.out
          rw [HIK.out] at h1
          have h2 : fewL z.Z z.n = P ++ pairsTo z.Z (classesL z.Z z.n) k := by rw [HE.out, HM.out, HPE.out]
          refine ⟨_, rfl, ?_, HS2.out.new⟩
          rw [h2]
          rw [HIK.out]
          rw [List.length_append] at h1 ⊢
          exact h1
end Go.Proofs.Ytapfihlgemejiaa
