/- reduce.needed. -/
import Derived.Test.YtapfihlgemejiaaR10
namespace Go.Proofs.Ytapfihlgemejiaa
open Go.RowKit
set_option maxRecDepth 100000 in
set_option maxHeartbeats 1000000 in
theorem index192_any (A : Option Addr) (n cap : Nat) (c1 c2 c3 c4 : Value) (vs : Nat → Value) (p : Nat → Bool) (w : World) (hn : n ≤ 9)
    (hel : 0 < n → ∃ a off, A = some ⟨a, off, none⟩ ∧ ∀ W, New w W → ∀ k, k < n → W.cell? ⟨a, off + k, none⟩ = some (vs k))
    (hp : ∀ W, New w W → ∀ k, k < n → Calls Try.prog 178 #[vs k, c1, c2, c3, c4] W fun e w' => e = .returned (.bool (p k)) ∧ New W w') :
    Calls Try.prog 192 #[.slice A n cap, .func (.func 178) #[] #[c1, c2, c3, c4]] w (IdxPost n p w) := by
  have HEL := Lib.hid hel
  have HP := Lib.hid hp
  clear hel hp
  go_enter Try.func192, Try.ntmps192
  go_wp2_with fail
  go_loopw [8] (fun vi wr => ∃ k : Nat, k ≤ n ∧ vi = .int .i64 k ∧ Hid (∀ t, t < k → p t = false) ∧ New w wr) (fun vi _ => n - (intOf vi).toNat)
  case atStart => exact ⟨0, Nat.zero_le _, rfl, fun t ht => absurd ht (Nat.not_lt_zero _), New.refl w⟩
  case round =>
    obtain ⟨k, hk, rfl, HB, hnw⟩ := hrel
    by_cases hlt : k < n
    · have hltz : (k : Int) < n := by omega
      obtain ⟨a, off, rfl, hcell⟩ := HEL.out (by omega)
      have s0 := hcell wr hnw k hlt
      have HK := Lib.hid (HP.out wr hnw k hlt)
      clear hcell
      go_wp2_with fail
      refine HK.out.mono ?_
      rintro e w1 ⟨rfl, hn1⟩
      have HN1 := Lib.hid (hnw.trans hn1)
      clear HK hn1
      cases hpk : p k
      · have HPK := Lib.hid hpk
        clear hpk
        go_wp2_with fail
        refine ⟨⟨k + 1, by omega, by go_num, fun t ht => ?_, HN1.out⟩, by simp [intOf] <;> omega⟩
        by_cases e : t = k
        · subst e; exact HPK.out
        · exact HB.out t (by omega)
      · have HPK := Lib.hid hpk
        clear hpk
        go_wp2_with fail
        exact ⟨rfl, .int .i64 k, by first | rfl | simp [results, Try.results192, go_sem], ⟨k, rfl, by rw [any_range_true hlt HPK.out]; simp, by omega, by omega, HN1.out⟩⟩
    · have hltz : ¬ (k : Int) < n := by omega
      go_wp2_with fail
      exact ⟨rfl, .int .i64 (-1), by first | rfl | simp [results, Try.results192, go_sem], ⟨-1, rfl, by rw [any_range_false (fun t ht => HB.out t (by omega))]; decide, by omega, by omega, hnw⟩⟩
set_option maxHeartbeats 1000000 in
theorem contains177_any (A : Option Addr) (n cap : Nat) (v : Value) (p : Nat → Bool) (w : World) (h : Calls Try.prog 192 #[.slice A n cap, v] w (IdxPost n p w)) :
    Calls Try.prog 177 #[.slice A n cap, v] w fun e w' => e = .returned (.bool ((List.range n).any p)) ∧ New w w' := by
  have H := Lib.hid h
  clear h
  go_enter Try.func177, Try.ntmps177
  go_wp2_with fail
  refine H.out.mono ?_
  rintro e w1 ⟨r, rfl, hr, _, _, hn1⟩
  have HR := Lib.hid hr
  clear hr
  go_wp2_with fail
  go_ret
  exact ⟨by rw [← HR.out]; rfl, hn1⟩
set_option maxHeartbeats 1000000 in
theorem contains175_any (A : Option Addr) (n cap : Nat) (v : Value) (p : Nat → Bool) (w : World) (h : Calls Try.prog 191 #[.slice A n cap, v] w (IdxPost n p w)) :
    Calls Try.prog 175 #[.slice A n cap, v] w fun e w' => e = .returned (.bool ((List.range n).any p)) ∧ New w w' := by
  have H := Lib.hid h
  clear h
  go_enter Try.func175, Try.ntmps175
  go_wp2_with fail
  refine H.out.mono ?_
  rintro e w1 ⟨r, rfl, hr, _, _, hn1⟩
  have HR := Lib.hid hr
  clear hr
  go_wp2_with fail
  go_ret
  exact ⟨by rw [← HR.out]; rfl, hn1⟩

theorem any_range_getD {α : Type} (l : List α) (d : α) (q : α → Bool) : (List.range l.length).any (fun k => q (l.getD k d)) = l.any q := by
  rw [Bool.eq_iff_iff, List.any_eq_true, List.any_eq_true]
  constructor
  · rintro ⟨k, hk, h⟩
    have hk := List.mem_range.1 hk
    rw [List.getD_eq_getElem?_getD, List.getElem?_eq_getElem hk] at h
    exact ⟨_, List.getElem_mem hk, h⟩
  · rintro ⟨x, hx, h⟩
    obtain ⟨k, hk, rfl⟩ := List.getElem_of_mem hx
    exact ⟨k, List.mem_range.2 hk, by rw [List.getD_eq_getElem?_getD, List.getElem?_eq_getElem hk]; exact h⟩
theorem LolAt.new {base : Nat} {w w' : World} {v : Value} {ls : List (List Nat)} (h : LolAt base w v ls) (hn : New w w') : LolAt base w' v ls := by
  obtain ⟨bs, h1, h2, h3, h4⟩ := h
  exact ⟨bs, h1, own_new h2 hn, fun i u hu => own_new (h3 i u hu) hn, h4⟩
theorem LolAt.form {base : Nat} {w : World} {v : Value} {ls : List (List Nat)} (h : LolAt base w v ls) : ∃ A c, v = .slice A ls.length c := by
  obtain ⟨bs, h1, h2, _⟩ := h
  exact own_form h2
/-- A list that lies in its own block reads the same from here on. -/
theorem own_reads {w : World} {base : Nat} {A : Option Addr} {c : Nat} {l : List Nat} (h : w.ownsRow base 3 1 (.slice A l.length c) l.length (nats l)) (h0 : 0 < l.length) :
    ∃ a off, A = some ⟨a, off, none⟩ ∧ ∀ W, New w W → ∀ k, k < l.length → W.cell? ⟨a, off + k, none⟩ = some (.int .i64 (l.getD k 0 : Nat)) := by
  obtain ⟨g, hg, _⟩ := own_cell h (by rw [nats_length]; exact h0)
  subst hg
  refine ⟨g, 0, rfl, fun W hW k hk => ?_⟩
  obtain ⟨g', hg', _, _, hc, _⟩ := own_cell (own_new h hW) (by rw [nats_length]; exact h0)
  cases hg'
  rw [Nat.zero_add]
  exact hc k _ (nats_get l k hk)
/-- A list of lists: each of its rows, as the walk reads it. -/
theorem LolAt.reads {base : Nat} {w : World} {A : Option Addr} {c : Nat} {ls : List (List Nat)} (h : LolAt base w (.slice A ls.length c) ls) (h0 : 0 < ls.length) :
    ∃ vs : Nat → Value, (∃ a off, A = some ⟨a, off, none⟩ ∧ ∀ W, New w W → ∀ k, k < ls.length → W.cell? ⟨a, off + k, none⟩ = some (vs k)) ∧
      ∀ k, k < ls.length → w.ownsRow base 3 1 (vs k) (ls.getD k []).length (nats (ls.getD k [])) := by
  obtain ⟨bs, h1, h2, h3, h4⟩ := h
  refine ⟨fun k => bs.getD k (.slice none 0 0), ?_, fun k hk => ?_⟩
  · obtain ⟨g, hg, _⟩ := own_cell h2 (by omega)
    subst hg
    refine ⟨g, 0, rfl, fun W hW k hk => ?_⟩
    obtain ⟨g', hg', _, _, hc, _⟩ := own_cell (own_new h2 hW) (by omega)
    cases hg'
    rw [Nat.zero_add]
    refine hc k _ ?_
    show bs[k]? = some (bs.getD k _)
    rw [List.getD_eq_getElem?_getD, List.getElem?_eq_getElem (by omega)]; rfl
  · refine h3 k _ ?_
    show bs[k]? = some (bs.getD k _)
    rw [List.getD_eq_getElem?_getD, List.getElem?_eq_getElem (by omega)]; rfl
/-- Classes as they come: none is empty, all clocks are the zone's. -/
def ClsOk (n : Nat) (ls : List (List Nat)) : Prop := ls.length ≤ 9 ∧ ∀ k, k < ls.length → 0 < (ls.getD k []).length ∧ (ls.getD k []).length ≤ 9 ∧ ∀ i, (ls.getD k []).getD i 0 ≤ n
theorem needed_classes (b gi gj gb gr base : Nat) (z : Zn) (i j : Nat) (A : Option Addr) (cap : Nat) (ls : List (List Nat)) (w : World) (h : NeedEnv w b gi gj gb gr z i j) (hc : Cells32 z) (hi : i ≤ z.n) (hj : j ≤ z.n)
    (hl : LolAt base w (.slice A ls.length cap) ls) (hok : ClsOk z.n ls) :
    Calls Try.prog 177 #[.slice A ls.length cap, .func (.func 178) #[] #[.pointer (some ⟨gi, 0, none⟩), .pointer (some ⟨gj, 0, none⟩), .pointer (some ⟨gb, 0, none⟩), .pointer (some ⟨gr, 0, none⟩)]] w
      fun e w' => e = .returned (.bool (ls.any fun c => by178 z.Z i j (hd c))) ∧ New w w' := by
  have he := any_range_getD ls [] (fun c => by178 z.Z i j (hd c))
  rw [← he]
  refine contains177_any A ls.length cap _ (fun k => by178 z.Z i j (hd (ls.getD k []))) w ?_
  rcases Nat.eq_zero_or_pos ls.length with h0 | h0
  · exact index192_any A ls.length cap _ _ _ _ (fun _ => .slice none 0 0) _ w hok.1 (fun h1 => absurd h1 (by omega)) (fun W _ k hk => absurd hk (by omega))
  · obtain ⟨vs, hv1, hv2⟩ := hl.reads h0
    refine index192_any A ls.length cap _ _ _ _ vs _ w hok.1 (fun _ => hv1) (fun W hW k hk => ?_)
    obtain ⟨o1, o2, o3⟩ := hok.2 k hk
    have hown := own_new (hv2 k hk) hW
    obtain ⟨Ak, ck, hk2⟩ := own_form hown
    rw [hk2] at hown ⊢
    obtain ⟨a, off, hA, hcell⟩ := own_reads hown o1
    exact by178_any b gi gj gb gr z i j Ak _ ck (hd (ls.getD k [])) W (h.new hW) hc hi hj (o3 0) o1 ⟨a, off, hA, fun W' hW' => hcell W' hW' 0 o1⟩
theorem ZoneAt.alloc {w : World} {b : Nat} {z : Zn} (h : ZoneAt w b z) (o : Obj) : ZoneAt (w.alloc o) b z := h.new ((New.refl w).alloc o)
theorem needed_to (b gr : Nat) (z : Zn) (A : Option Addr) (cap : Nat) (d : List Nat) (base : Nat) (w : World) (h : ZoneAt w b z) (hr : Row w gr 196 [.pointer (some ⟨b, 0, none⟩)])
    (hd : w.ownsRow base 3 1 (.slice A d.length cap) d.length (nats d)) (h9 : d.length ≤ 9) (hle : ∀ i, d.getD i 0 ≤ z.n) :
    Calls Try.prog 175 #[.slice A d.length cap, .func (.func 176) #[] #[.pointer (some ⟨gr, 0, none⟩)]] w
      fun e w' => e = .returned (.bool (d.any fun a => decide (cellN z.Z 0 a = 1))) ∧ New w w' := by
  have he := any_range_getD d 0 (fun a => decide (cellN z.Z 0 a = 1))
  rw [← he]
  refine contains175_any A d.length cap _ (fun k => decide (cellN z.Z 0 (d.getD k 0) = 1)) w ?_
  exact index191_any A d.length cap _ (fun k => d.getD k 0) _ w h9 (fun h0 => own_reads hd h0) (fun W hW k hk => by176_any b gr _ z W (h.new hW) (hW.row hr) (hle k))
def NeedPost (v : Bool) (w : World) (e : Ending) (w' : World) : Prop := e = .returned (.bool v) ∧ New w w'
set_option maxRecDepth 100000 in
set_option maxHeartbeats 4000000 in
theorem needed_any (b base base2 : Nat) (z : Zn) (i : Nat) (A B : Option Addr) (capd cap : Nat) (d : List Nat) (ls : List (List Nat)) (w : World) (h : ZoneAt w b z) (hc : Cells32 z) (hi : i ≤ z.n)
    (hd0 : w.ownsRow base2 3 1 (.slice A d.length capd) d.length (nats d)) (h0 : 0 < d.length) (h9 : d.length ≤ 9) (hle : ∀ k, d.getD k 0 ≤ z.n)
    (hl : LolAt base w (.slice B ls.length cap) ls) (hok : ClsOk z.n ls) :
    Calls Try.prog 142 #[.agg #[.pointer (some ⟨b, 0, none⟩)], .int .i64 i, .slice A d.length capd, .slice B ls.length cap] w (NeedPost (neededB z.Z i d ls) w) := by
  have hj : hd d ≤ z.n := hle 0
  obtain ⟨a, off, rfl, hread⟩ := own_reads hd0 h0
  have HRD := Lib.hid hread
  have hN : neededB z.Z i d ls = (decide (cellN z.Z i (hd d) ≠ 2147483647) && !(decide (i = 0) && d.any fun a => decide (cellN z.Z 0 a = 1)) && !ls.any fun c => by178 z.Z i (hd d) (hd c)) := rfl
  rw [hN]
  have AT := (fun W (hn : New w W) => at_any b z i (hd d) W (h.new hn) hi hj)
  have NT := (fun W (hn : New w W) gr (hr : Row W gr 196 [.pointer (some ⟨b, 0, none⟩)]) => needed_to b gr z _ capd d base2 W (h.new hn) hr (own_new hd0 hn) h9 hle)
  have NC := (fun W (hn : New w W) gi gj gb gr (hr : NeedEnv W b gi gj gb gr z i (hd d)) => needed_classes b gi gj gb gr base z i (hd d) B cap ls W hr hc hi hj (hl.new hn) hok)
  have HZ := Lib.hid h
  have s0 := hread (((w.alloc (.cells #[.pointer (some ⟨b, 0, none⟩)] 196)).alloc (.cells #[.int .i64 i] 3))) (((New.refl w).alloc _).alloc _) 0 h0
  have e0 : ((d.getD 0 0 : Nat) : Int) = (hd d : Int) := rfl
  rw [e0, Nat.add_zero] at s0
  have hln : (0 : Int) < d.length := by omega
  have e1 : gt z.Z (9 * i + hd d) = cellN z.Z i (hd d) := rfl
  rw [e1] at AT
  have HEnv : ∀ W gi gj gb gr (q : Int), cellN z.Z i (hd d) = q → ZoneAt W b z → Row W gi 3 [.int .i64 i] → Row W gj 3 [.int .i64 (hd d)] → Row W gb 76 [.int .i32 q] → Row W gr 196 [.pointer (some ⟨b, 0, none⟩)] → NeedEnv W b gi gj gb gr z i (hd d) :=
    fun W gi gj gb gr q hq h1 h2 h3 h4 h5 => by subst hq; exact ⟨h1, h2, h3, h4, h5⟩
  clear hread hd0 hl h e0 e1 hN
  generalize (d.any fun a => decide (cellN z.Z 0 a = 1)) = t at *
  generalize (ls.any fun c => by178 z.Z i (hd d) (hd c)) = y at *
  generalize hq : cellN z.Z i (hd d) = q at AT ⊢
  have HENV := Lib.hid (fun W gi gj gb gr => HEnv W gi gj gb gr q hq)
  clear HEnv hq hc hok hle
  generalize hd d = j at *
  have HAT := Lib.hid AT
  have HNT := Lib.hid NT
  have HNC := Lib.hid NC
  clear AT NT NC
  generalize hv : (decide (q ≠ 2147483647) && !(decide (i = 0) && t) && !y) = v
  have HV := Lib.hid hv
  clear hv
  go_enter Try.func142, Try.ntmps142
  go_wp2_with fail
  refine (HAT.out _ ((((New.refl w).alloc _).alloc _).alloc _)).mono ?_
  rintro e w1 ⟨rfl, hn1⟩
  have R1 := hn1.row (((Row.new_at w 196 [.pointer (some ⟨b, 0, none⟩)] rfl).alloc _).alloc _)
  have R2 := hn1.row ((Row.new_at (w.alloc (.cells #[.pointer (some ⟨b, 0, none⟩)] 196)) 3 [.int .i64 i] (g := w.heap.size + 1) (by simp)).alloc _)
  have R3 := hn1.row (Row.new_at ((w.alloc (.cells #[.pointer (some ⟨b, 0, none⟩)] 196)).alloc (.cells #[.int .i64 i] 3)) 3 [.int .i64 j] (g := w.heap.size + 1 + 1) (by simp))
  have N1 := Lib.hid (((((New.refl w).alloc _).alloc _).alloc _).trans hn1)
  have c1 : w1.cell? ⟨w.heap.size, 0, none⟩ = some (.pointer (some ⟨b, 0, none⟩)) := R1.cell 0
  have c2 : w1.cell? ⟨w.heap.size + 1, 0, none⟩ = some (.int .i64 i) := R2.cell 0
  have c3 : w1.cell? ⟨w.heap.size + 1 + 1, 0, none⟩ = some (.int .i64 j) := R3.cell 0
  have ENV : Hid (NeedEnv (w1.alloc (.cells #[.int .i32 q] 76)) b (w.heap.size + 1) (w.heap.size + 1 + 1) w1.heap.size w.heap.size z i j) :=
    HENV.out _ _ _ _ _ ((HZ.out.new N1.out).alloc _) (R2.alloc _) (R3.alloc _) (Row.new w1 76 _) (R1.alloc _)
  have HR1 := Lib.hid (R1.alloc (.cells #[.int .i32 q] 76))
  have N2 := Lib.hid (N1.out.alloc (.cells #[.int .i32 q] 76))
  have hz1 := R1.lt
  have hz2 := R2.lt
  have hz3 := R3.lt
  clear R1 R2 R3 hn1 HAT s0
  by_cases hqi : q = 2147483647
  · subst hqi
    go_wp2_with fail
    go_ret
    exact ⟨by rw [← HV.out]; rfl, N2.out⟩
  · have hqb : (q == 2147483647) = false := by simpa using hqi
    by_cases hi0 : i = 0
    · subst hi0
      have H1 := Lib.hid (HNT.out _ N2.out _ HR1.out)
      go_wp2_with fail
      refine H1.out.mono ?_
      rintro e w2 ⟨rfl, hn2⟩
      cases t
      · have H2 := Lib.hid (HNC.out _ (N2.out.trans hn2) _ _ _ _ (ENV.out.new hn2))
        go_wp2_with fail
        refine H2.out.mono ?_
        rintro e w3 ⟨rfl, hn3⟩
        go_wp2_with fail
        go_ret
        exact ⟨by rw [← HV.out, decide_eq_true hqi]; simp, (N2.out.trans hn2).trans hn3⟩
      · go_wp2_with fail
        go_ret
        exact ⟨by rw [← HV.out, decide_eq_true hqi]; rfl, N2.out.trans hn2⟩
    · have hib : ((i : Int) == 0) = false := by simp; omega
      have H2 := Lib.hid (HNC.out _ N2.out _ _ _ _ ENV.out)
      have HI0 := Lib.hid hi0
      clear hi0
      go_wp2_with fail
      refine H2.out.mono ?_
      rintro e w3 ⟨rfl, hn3⟩
      go_wp2_with fail
      go_ret
      exact ⟨by rw [← HV.out, decide_eq_true hqi, decide_eq_false HI0.out]; simp, N2.out.trans hn3⟩
end Go.Proofs.Ytapfihlgemejiaa
