/- reduce.needed. | reduce.Few: its closure put. | reduce.Few: what has been put so far, plain and in memory. -/
import Derived.Test.YtapfihlgemejiaaR10
import Derived.Test.YtapfihlgemejiaaD3
import Derived.Test.YtapfihlgemejiaaM4
-- reduce.needed.
namespace Go.Proofs.Ytapfihlgemejiaa
open Go.RowKit
set_option maxRecDepth 100000 in
set_option maxHeartbeats 1000000 in
theorem index192_any (A : Option Addr) (n cap : Nat) (c1 c2 c3 c4 : Value) (vs : Nat → Value) (p : Nat → Bool) (w : World) (hn : n ≤ 9)
    (hel : 0 < n → ∃ a off, A = some ⟨a, off, none⟩ ∧ ∀ W, New w W → ∀ k, k < n → W.cell? ⟨a, off + k, none⟩ = some (vs k))
    (hp : ∀ W, New w W → ∀ k, k < n → Calls Try.prog 178 #[vs k, c1, c2, c3, c4] W fun e w' => e = .returned (.bool (p k)) ∧ New W w') :
    Calls Try.prog 192 #[.slice A n cap, .func (.func 178) #[] #[c1, c2, c3, c4]] w (IdxPost n p w) := by
  have HEL := Lib.hid hel
  have HP := Lib.hid hp
  clear hel hp
  go_enter Try.func192, Try.ntmps192
  go_wp2_with fail
  go_loopw [8] (fun vi wr => ∃ k : Nat, k ≤ n ∧ vi = .int .i64 k ∧ Hid (∀ t, t < k → p t = false) ∧ New w wr) (fun vi _ => n - (intOf vi).toNat)
  case atStart => exact ⟨0, Nat.zero_le _, rfl, fun t ht => absurd ht (Nat.not_lt_zero _), New.refl w⟩
  case round =>
    obtain ⟨k, hk, rfl, HB, hnw⟩ := hrel
    by_cases hlt : k < n
    · have hltz : (k : Int) < n := by omega
      obtain ⟨a, off, rfl, hcell⟩ := HEL.out (by omega)
      have s0 := hcell wr hnw k hlt
      have HK := Lib.hid (HP.out wr hnw k hlt)
      clear hcell
      go_wp2_with fail
      refine HK.out.mono ?_
      rintro e w1 ⟨rfl, hn1⟩
      have HN1 := Lib.hid (hnw.trans hn1)
      clear HK hn1
      cases hpk : p k
      · have HPK := Lib.hid hpk
        clear hpk
        go_wp2_with fail
        refine ⟨⟨k + 1, by omega, by go_num, fun t ht => ?_, HN1.out⟩, by simp [intOf] <;> omega⟩
        by_cases e : t = k
        · subst e; exact HPK.out
        · exact HB.out t (by omega)
      · have HPK := Lib.hid hpk
        clear hpk
        go_wp2_with fail
        exact ⟨rfl, .int .i64 k, by first | rfl | simp [results, Try.results192, go_sem], ⟨k, rfl, by rw [any_range_true hlt HPK.out]; simp, by omega, by omega, HN1.out⟩⟩
    · have hltz : ¬ (k : Int) < n := by omega
      go_wp2_with fail
      exact ⟨rfl, .int .i64 (-1), by first | rfl | simp [results, Try.results192, go_sem], ⟨-1, rfl, by rw [any_range_false (fun t ht => HB.out t (by omega))]; decide, by omega, by omega, hnw⟩⟩
set_option maxHeartbeats 1000000 in
theorem contains177_any (A : Option Addr) (n cap : Nat) (v : Value) (p : Nat → Bool) (w : World) (h : Calls Try.prog 192 #[.slice A n cap, v] w (IdxPost n p w)) :
    Calls Try.prog 177 #[.slice A n cap, v] w fun e w' => e = .returned (.bool ((List.range n).any p)) ∧ New w w' := by
  have H := Lib.hid h
  clear h
  go_enter Try.func177, Try.ntmps177
  go_wp2_with fail
  refine H.out.mono ?_
  rintro e w1 ⟨r, rfl, hr, _, _, hn1⟩
  have HR := Lib.hid hr
  clear hr
  go_wp2_with fail
  go_ret
  exact ⟨by rw [← HR.out]; rfl, hn1⟩
set_option maxHeartbeats 1000000 in
theorem contains175_any (A : Option Addr) (n cap : Nat) (v : Value) (p : Nat → Bool) (w : World) (h : Calls Try.prog 191 #[.slice A n cap, v] w (IdxPost n p w)) :
    Calls Try.prog 175 #[.slice A n cap, v] w fun e w' => e = .returned (.bool ((List.range n).any p)) ∧ New w w' := by
  have H := Lib.hid h
  clear h
  go_enter Try.func175, Try.ntmps175
  go_wp2_with fail
  refine H.out.mono ?_
  rintro e w1 ⟨r, rfl, hr, _, _, hn1⟩
  have HR := Lib.hid hr
  clear hr
  go_wp2_with fail
  go_ret
  exact ⟨by rw [← HR.out]; rfl, hn1⟩

theorem any_range_getD {α : Type} (l : List α) (d : α) (q : α → Bool) : (List.range l.length).any (fun k => q (l.getD k d)) = l.any q := by
  rw [Bool.eq_iff_iff, List.any_eq_true, List.any_eq_true]
  constructor
  · rintro ⟨k, hk, h⟩
    have hk := List.mem_range.1 hk
    rw [List.getD_eq_getElem?_getD, List.getElem?_eq_getElem hk] at h
    exact ⟨_, List.getElem_mem hk, h⟩
  · rintro ⟨x, hx, h⟩
    obtain ⟨k, hk, rfl⟩ := List.getElem_of_mem hx
    exact ⟨k, List.mem_range.2 hk, by rw [List.getD_eq_getElem?_getD, List.getElem?_eq_getElem hk]; exact h⟩
theorem LolAt.new {base : Nat} {w w' : World} {v : Value} {ls : List (List Nat)} (h : LolAt base w v ls) (hn : New w w') : LolAt base w' v ls := by
  obtain ⟨bs, h1, h2, h3, h4⟩ := h
  exact ⟨bs, h1, own_new h2 hn, fun i u hu => own_new (h3 i u hu) hn, h4⟩
theorem LolAt.form {base : Nat} {w : World} {v : Value} {ls : List (List Nat)} (h : LolAt base w v ls) : ∃ A c, v = .slice A ls.length c := by
  obtain ⟨bs, h1, h2, _⟩ := h
  exact own_form h2
/-- A list that lies in its own block reads the same from here on. -/
theorem own_reads {w : World} {base : Nat} {A : Option Addr} {c : Nat} {l : List Nat} (h : w.ownsRow base 3 1 (.slice A l.length c) l.length (nats l)) (h0 : 0 < l.length) :
    ∃ a off, A = some ⟨a, off, none⟩ ∧ ∀ W, New w W → ∀ k, k < l.length → W.cell? ⟨a, off + k, none⟩ = some (.int .i64 (l.getD k 0 : Nat)) := by
  obtain ⟨g, hg, _⟩ := own_cell h (by rw [nats_length]; exact h0)
  subst hg
  refine ⟨g, 0, rfl, fun W hW k hk => ?_⟩
  obtain ⟨g', hg', _, _, hc, _⟩ := own_cell (own_new h hW) (by rw [nats_length]; exact h0)
  cases hg'
  rw [Nat.zero_add]
  exact hc k _ (nats_get l k hk)
/-- A list of lists: each of its rows, as the walk reads it. -/
theorem LolAt.reads {base : Nat} {w : World} {A : Option Addr} {c : Nat} {ls : List (List Nat)} (h : LolAt base w (.slice A ls.length c) ls) (h0 : 0 < ls.length) :
    ∃ vs : Nat → Value, (∃ a off, A = some ⟨a, off, none⟩ ∧ ∀ W, New w W → ∀ k, k < ls.length → W.cell? ⟨a, off + k, none⟩ = some (vs k)) ∧
      ∀ k, k < ls.length → w.ownsRow base 3 1 (vs k) (ls.getD k []).length (nats (ls.getD k [])) := by
  obtain ⟨bs, h1, h2, h3, h4⟩ := h
  refine ⟨fun k => bs.getD k (.slice none 0 0), ?_, fun k hk => ?_⟩
  · obtain ⟨g, hg, _⟩ := own_cell h2 (by omega)
    subst hg
    refine ⟨g, 0, rfl, fun W hW k hk => ?_⟩
    obtain ⟨g', hg', _, _, hc, _⟩ := own_cell (own_new h2 hW) (by omega)
    cases hg'
    rw [Nat.zero_add]
    refine hc k _ ?_
    show bs[k]? = some (bs.getD k _)
    rw [List.getD_eq_getElem?_getD, List.getElem?_eq_getElem (by omega)]; rfl
  · refine h3 k _ ?_
    show bs[k]? = some (bs.getD k _)
    rw [List.getD_eq_getElem?_getD, List.getElem?_eq_getElem (by omega)]; rfl
/-- Classes as they come: none is empty, all clocks are the zone's. -/
def ClsOk (n : Nat) (ls : List (List Nat)) : Prop := ls.length ≤ 9 ∧ ∀ k, k < ls.length → 0 < (ls.getD k []).length ∧ (ls.getD k []).length ≤ 9 ∧ ∀ i, (ls.getD k []).getD i 0 ≤ n
theorem needed_classes (b gi gj gb gr base : Nat) (z : Zn) (i j : Nat) (A : Option Addr) (cap : Nat) (ls : List (List Nat)) (w : World) (h : NeedEnv w b gi gj gb gr z i j) (hc : Cells32 z) (hi : i ≤ z.n) (hj : j ≤ z.n)
    (hl : LolAt base w (.slice A ls.length cap) ls) (hok : ClsOk z.n ls) :
    Calls Try.prog 177 #[.slice A ls.length cap, .func (.func 178) #[] #[.pointer (some ⟨gi, 0, none⟩), .pointer (some ⟨gj, 0, none⟩), .pointer (some ⟨gb, 0, none⟩), .pointer (some ⟨gr, 0, none⟩)]] w
      fun e w' => e = .returned (.bool (ls.any fun c => by178 z.Z i j (hd c))) ∧ New w w' := by
  have he := any_range_getD ls [] (fun c => by178 z.Z i j (hd c))
  rw [← he]
  refine contains177_any A ls.length cap _ (fun k => by178 z.Z i j (hd (ls.getD k []))) w ?_
  rcases Nat.eq_zero_or_pos ls.length with h0 | h0
  · exact index192_any A ls.length cap _ _ _ _ (fun _ => .slice none 0 0) _ w hok.1 (fun h1 => absurd h1 (by omega)) (fun W _ k hk => absurd hk (by omega))
  · obtain ⟨vs, hv1, hv2⟩ := hl.reads h0
    refine index192_any A ls.length cap _ _ _ _ vs _ w hok.1 (fun _ => hv1) (fun W hW k hk => ?_)
    obtain ⟨o1, o2, o3⟩ := hok.2 k hk
    have hown := own_new (hv2 k hk) hW
    obtain ⟨Ak, ck, hk2⟩ := own_form hown
    rw [hk2] at hown ⊢
    obtain ⟨a, off, hA, hcell⟩ := own_reads hown o1
    exact by178_any b gi gj gb gr z i j Ak _ ck (hd (ls.getD k [])) W (h.new hW) hc hi hj (o3 0) o1 ⟨a, off, hA, fun W' hW' => hcell W' hW' 0 o1⟩
theorem ZoneAt.alloc {w : World} {b : Nat} {z : Zn} (h : ZoneAt w b z) (o : Obj) : ZoneAt (w.alloc o) b z := h.new ((New.refl w).alloc o)
theorem needed_to (b gr : Nat) (z : Zn) (A : Option Addr) (cap : Nat) (d : List Nat) (base : Nat) (w : World) (h : ZoneAt w b z) (hr : Row w gr 196 [.pointer (some ⟨b, 0, none⟩)])
    (hd : w.ownsRow base 3 1 (.slice A d.length cap) d.length (nats d)) (h9 : d.length ≤ 9) (hle : ∀ i, d.getD i 0 ≤ z.n) :
    Calls Try.prog 175 #[.slice A d.length cap, .func (.func 176) #[] #[.pointer (some ⟨gr, 0, none⟩)]] w
      fun e w' => e = .returned (.bool (d.any fun a => decide (cellN z.Z 0 a = 1))) ∧ New w w' := by
  have he := any_range_getD d 0 (fun a => decide (cellN z.Z 0 a = 1))
  rw [← he]
  refine contains175_any A d.length cap _ (fun k => decide (cellN z.Z 0 (d.getD k 0) = 1)) w ?_
  exact index191_any A d.length cap _ (fun k => d.getD k 0) _ w h9 (fun h0 => own_reads hd h0) (fun W hW k hk => by176_any b gr _ z W (h.new hW) (hW.row hr) (hle k))
def NeedPost (v : Bool) (w : World) (e : Ending) (w' : World) : Prop := e = .returned (.bool v) ∧ New w w'
set_option maxRecDepth 100000 in
set_option maxHeartbeats 4000000 in
theorem needed_any (b base base2 : Nat) (z : Zn) (i : Nat) (A B : Option Addr) (capd cap : Nat) (d : List Nat) (ls : List (List Nat)) (w : World) (h : ZoneAt w b z) (hc : Cells32 z) (hi : i ≤ z.n)
    (hd0 : w.ownsRow base2 3 1 (.slice A d.length capd) d.length (nats d)) (h0 : 0 < d.length) (h9 : d.length ≤ 9) (hle : ∀ k, d.getD k 0 ≤ z.n)
    (hl : LolAt base w (.slice B ls.length cap) ls) (hok : ClsOk z.n ls) :
    Calls Try.prog 142 #[.agg #[.pointer (some ⟨b, 0, none⟩)], .int .i64 i, .slice A d.length capd, .slice B ls.length cap] w (NeedPost (neededB z.Z i d ls) w) := by
  have hj : hd d ≤ z.n := hle 0
  obtain ⟨a, off, rfl, hread⟩ := own_reads hd0 h0
  have HRD := Lib.hid hread
  have hN : neededB z.Z i d ls = (decide (cellN z.Z i (hd d) ≠ 2147483647) && !(decide (i = 0) && d.any fun a => decide (cellN z.Z 0 a = 1)) && !ls.any fun c => by178 z.Z i (hd d) (hd c)) := rfl
  rw [hN]
  have AT := (fun W (hn : New w W) => at_any b z i (hd d) W (h.new hn) hi hj)
  have NT := (fun W (hn : New w W) gr (hr : Row W gr 196 [.pointer (some ⟨b, 0, none⟩)]) => needed_to b gr z _ capd d base2 W (h.new hn) hr (own_new hd0 hn) h9 hle)
  have NC := (fun W (hn : New w W) gi gj gb gr (hr : NeedEnv W b gi gj gb gr z i (hd d)) => needed_classes b gi gj gb gr base z i (hd d) B cap ls W hr hc hi hj (hl.new hn) hok)
  have HZ := Lib.hid h
  have s0 := hread (((w.alloc (.cells #[.pointer (some ⟨b, 0, none⟩)] 196)).alloc (.cells #[.int .i64 i] 3))) (((New.refl w).alloc _).alloc _) 0 h0
  have e0 : ((d.getD 0 0 : Nat) : Int) = (hd d : Int) := rfl
  rw [e0, Nat.add_zero] at s0
  have hln : (0 : Int) < d.length := by omega
  have e1 : gt z.Z (9 * i + hd d) = cellN z.Z i (hd d) := rfl
  rw [e1] at AT
  have HEnv : ∀ W gi gj gb gr (q : Int), cellN z.Z i (hd d) = q → ZoneAt W b z → Row W gi 3 [.int .i64 i] → Row W gj 3 [.int .i64 (hd d)] → Row W gb 76 [.int .i32 q] → Row W gr 196 [.pointer (some ⟨b, 0, none⟩)] → NeedEnv W b gi gj gb gr z i (hd d) :=
    fun W gi gj gb gr q hq h1 h2 h3 h4 h5 => by subst hq; exact ⟨h1, h2, h3, h4, h5⟩
  clear hread hd0 hl h e0 e1 hN
  generalize (d.any fun a => decide (cellN z.Z 0 a = 1)) = t at *
  generalize (ls.any fun c => by178 z.Z i (hd d) (hd c)) = y at *
  generalize hq : cellN z.Z i (hd d) = q at AT ⊢
  have HENV := Lib.hid (fun W gi gj gb gr => HEnv W gi gj gb gr q hq)
  clear HEnv hq hc hok hle
  generalize hd d = j at *
  have HAT := Lib.hid AT
  have HNT := Lib.hid NT
  have HNC := Lib.hid NC
  clear AT NT NC
  generalize hv : (decide (q ≠ 2147483647) && !(decide (i = 0) && t) && !y) = v
  have HV := Lib.hid hv
  clear hv
  go_enter Try.func142, Try.ntmps142
  go_wp2_with fail
  refine (HAT.out _ ((((New.refl w).alloc _).alloc _).alloc _)).mono ?_
  rintro e w1 ⟨rfl, hn1⟩
  have R1 := hn1.row (((Row.new_at w 196 [.pointer (some ⟨b, 0, none⟩)] rfl).alloc _).alloc _)
  have R2 := hn1.row ((Row.new_at (w.alloc (.cells #[.pointer (some ⟨b, 0, none⟩)] 196)) 3 [.int .i64 i] (g := w.heap.size + 1) (by simp)).alloc _)
  have R3 := hn1.row (Row.new_at ((w.alloc (.cells #[.pointer (some ⟨b, 0, none⟩)] 196)).alloc (.cells #[.int .i64 i] 3)) 3 [.int .i64 j] (g := w.heap.size + 1 + 1) (by simp))
  have N1 := Lib.hid (((((New.refl w).alloc _).alloc _).alloc _).trans hn1)
  have c1 : w1.cell? ⟨w.heap.size, 0, none⟩ = some (.pointer (some ⟨b, 0, none⟩)) := R1.cell 0
  have c2 : w1.cell? ⟨w.heap.size + 1, 0, none⟩ = some (.int .i64 i) := R2.cell 0
  have c3 : w1.cell? ⟨w.heap.size + 1 + 1, 0, none⟩ = some (.int .i64 j) := R3.cell 0
  have ENV : Hid (NeedEnv (w1.alloc (.cells #[.int .i32 q] 76)) b (w.heap.size + 1) (w.heap.size + 1 + 1) w1.heap.size w.heap.size z i j) :=
    HENV.out _ _ _ _ _ ((HZ.out.new N1.out).alloc _) (R2.alloc _) (R3.alloc _) (Row.new w1 76 _) (R1.alloc _)
  have HR1 := Lib.hid (R1.alloc (.cells #[.int .i32 q] 76))
  have N2 := Lib.hid (N1.out.alloc (.cells #[.int .i32 q] 76))
  have hz1 := R1.lt
  have hz2 := R2.lt
  have hz3 := R3.lt
  clear R1 R2 R3 hn1 HAT s0
  by_cases hqi : q = 2147483647
  · subst hqi
    go_wp2_with fail
    go_ret
    exact ⟨by rw [← HV.out]; rfl, N2.out⟩
  · have hqb : (q == 2147483647) = false := by simpa using hqi
    by_cases hi0 : i = 0
    · subst hi0
      have H1 := Lib.hid (HNT.out _ N2.out _ HR1.out)
      go_wp2_with fail
      refine H1.out.mono ?_
      rintro e w2 ⟨rfl, hn2⟩
      cases t
      · have H2 := Lib.hid (HNC.out _ (N2.out.trans hn2) _ _ _ _ (ENV.out.new hn2))
        go_wp2_with fail
        refine H2.out.mono ?_
        rintro e w3 ⟨rfl, hn3⟩
        go_wp2_with fail
        go_ret
        exact ⟨by rw [← HV.out, decide_eq_true hqi]; simp, (N2.out.trans hn2).trans hn3⟩
      · go_wp2_with fail
        go_ret
        exact ⟨by rw [← HV.out, decide_eq_true hqi]; rfl, N2.out.trans hn2⟩
    · have hib : ((i : Int) == 0) = false := by simp; omega
      have H2 := Lib.hid (HNC.out _ N2.out _ _ _ _ ENV.out)
      have HI0 := Lib.hid hi0
      clear hi0
      go_wp2_with fail
      refine H2.out.mono ?_
      rintro e w3 ⟨rfl, hn3⟩
      go_wp2_with fail
      go_ret
      exact ⟨by rw [← HV.out, decide_eq_true hqi, decide_eq_false HI0.out]; simp, N2.out.trans hn3⟩
end Go.Proofs.Ytapfihlgemejiaa
-- reduce.Few: its closure put.
namespace Go.Proofs.Ytapfihlgemejiaa
open Go.RowKit Go.Proofs.YtapfihlgemejiaaW.PrintLast
def r139T : Bool × List (List Nat × List Nat) := (true, [([], []), ([], []), ([], []), ([], []), ([], []), ([], []), ([3, 4, 5], [3, 4, 5]), ([1, 2, 6], [1, 2, 6]), ([7], [7]), ([0, 8, 6], [0, 8]), ([9, 9, 0, 1, 2, 3, 4, 5, 6, 7, 8, 9], [9])])
def r139B : List Nat := [0, 0, 0, 0, 0, 0, 56, 126, 254, 511, 1023]
theorem r139Tab : rtab .any (opsOf Try.f139 0) = r139T := by kernel_rfl
theorem r139Bits : waitsOk r139T.2 r139B = true := by kernel_rfl
theorem infoOf100 : (Try.prog.info? 100).map (fun i => (i.zero, i.size, i.bytes)) = some (some (.agg #[.int .i64 0, .int .i64 0, .int .i32 0]), 3, 24) := by kernel_rfl
/-- What 'put' leaves. -/
def PutPost (base go : Nat) (v : Value) (l : List Lim) (x : Lim) (w : World) (e : Ending) (w' : World) : Prop :=
  e = .returned (.tuple #[]) ∧ ∃ v', Row w' go 113 [v'] ∧ w'.ownsRow base 100 3 v' (l.length + 1) (limRow (l ++ [x])) ∧ Fr (fun k => k = go ∨ v.ownBlock = some k) w w' ∧ (v'.ownBlock = v.ownBlock ∨ ∃ g, v'.ownBlock = some g ∧ w.heap.size ≤ g)
set_option maxRecDepth 100000 in
set_option maxHeartbeats 4000000 in
theorem put_any (b gr go base i j : Nat) (z : Zn) (v : Value) (l : List Lim) (w : World) (h : ZoneAt w b z) (hr : Row w gr 196 [.pointer (some ⟨b, 0, none⟩)]) (hgo : Row w go 113 [v])
    (ho : w.ownsRow base 100 3 v l.length (limRow l)) (hl : l.length ≤ 200) (hi : i ≤ z.n) (hj : j ≤ z.n) (hb : base ≤ w.heap.size) :
    Calls Try.prog 139 #[.int .i64 i, .int .i64 j, .pointer (some ⟨go, 0, none⟩), .pointer (some ⟨gr, 0, none⟩)] w (PutPost base go v l ⟨i, j, cellN z.Z i j⟩ w) := by
  have AT := Lib.hid (fun W (hn : New w W) => at_any b z i j W (h.new hn) hi hj)
  have e0 : cellN z.Z i j = gt z.Z (9 * i + j) := rfl
  rw [e0]
  generalize gt z.Z (9 * i + j) = x at *
  obtain ⟨i0, hi0, hz0, hz1, hz2⟩ := info_parts infoOf100
  have HO := Lib.hid ho
  clear h ho e0
  go_enter Try.func139, Try.ntmps139
  go_wp2_with fail
  refine start_ (n := 11) (S := fun W => Row W go 113 [v] ∧ Row W gr 196 [.pointer (some ⟨b, 0, none⟩)]) (ds := [10]) #[false, false, false, false, false, false, false, false, false, false, false] (by kernel_rfl) rfl rfl ⟨hgo.drew, hr.drew⟩ (fun hHeld => ?_); refine with_tabW r139Tab r139Bits (fun HT_ HW_ => ?_)
  have hD : New w w.drew := (New.refl w).drew
  generalize w.drew = wd at hHeld hD ⊢
  refine pure_ (i := 1) (N := some 7) (v := ?_) (a' := ?_) #[false, true, false, false, false, false, false, false, false, false, false] rfl rfl (any_of HT_.out (by kernel_rfl)) (fun _ _ _ h => h) (Or.inl ⟨by rfl, ?_⟩) ?_ ?_
  rotate_left
  · intro w'
    go_simp
    with_reducible rfl
  rotate_left
  · simp only [Act.put, List.setIfInBounds_toArray, List.set_cons_zero, List.set_cons_succ]
    rfl
  refine pure_ (i := 2) (N := some 8) (v := ?_) (a' := ?_) #[false, true, true, false, false, false, false, false, false, false, false] rfl rfl (any_of HT_.out (by kernel_rfl)) (fun _ _ _ h => h) (Or.inl ⟨by rfl, ?_⟩) ?_ ?_
  rotate_left
  · intro w'
    go_simp
    with_reducible rfl
  rotate_left
  · simp only [Act.put, List.setIfInBounds_toArray, List.set_cons_zero, List.set_cons_succ]
    rfl
  refine pure_ (i := 4) (N := some 10) (v := ?_) (a' := ?_) #[false, true, true, false, true, false, false, false, false, false, false] rfl rfl (any_of HT_.out (by kernel_rfl)) (fun _ _ _ h => h) (Or.inl ⟨by rfl, ?_⟩) ?_ ?_
  rotate_left
  · intro w'
    go_simp
    with_reducible rfl
  rotate_left
  · simp only [Act.put, List.setIfInBounds_toArray, List.set_cons_zero, List.set_cons_succ]
    rfl
  refine pure_ (i := 5) (N := some 11) (v := ?_) (a' := ?_) #[false, true, true, false, true, true, false, false, false, false, false] rfl rfl (any_of HT_.out (by kernel_rfl)) (fun _ _ _ h => h) (Or.inl ⟨by rfl, ?_⟩) ?_ ?_
  rotate_left
  · intro w'
    go_simp
    with_reducible rfl
  rotate_left
  · simp only [Act.put, List.setIfInBounds_toArray, List.set_cons_zero, List.set_cons_succ]
    rfl
  refine take_ (i := 0) (N := some 6) (v := ?_) (a' := ?_) #[true, true, true, false, true, true, false, false, false, false, false] rfl rfl (take_ofW HT_.out HW_.out (by kernel_rfl)) (fun _ _ _ h => h) (Or.inl ⟨by rfl, ?_⟩) hHeld ?_ ?_
  rotate_left
  · intro w' hkt
    have s1 := hkt.1.cell 0
    have s2 := hkt.2.cell 0
    simp only [List.getElem?_cons_zero] at s1 s2
    go_simp
    with_reducible rfl
  rotate_left
  · simp only [Act.put, List.setIfInBounds_toArray, List.set_cons_zero, List.set_cons_succ]
    rfl
  refine take_ (i := 3) (N := some 9) (v := ?_) (a' := ?_) #[true, true, true, true, true, true, false, false, false, false, false] rfl rfl (take_ofW HT_.out HW_.out (by kernel_rfl)) (fun _ _ _ h => h) (Or.inl ⟨by rfl, ?_⟩) hHeld ?_ ?_
  rotate_left
  · intro w' hkt
    have s1 := hkt.1.cell 0
    have s2 := hkt.2.cell 0
    simp only [List.getElem?_cons_zero] at s1 s2
    go_simp
    with_reducible rfl
  rotate_left
  · simp only [Act.put, List.setIfInBounds_toArray, List.set_cons_zero, List.set_cons_succ]
    rfl
  refine one_ (i := 6) (N := some 12) #[true, true, true, true, true, true, true, false, false, false, false] rfl rfl (one_of HT_.out (by kernel_rfl)) (by decide) (fun K hK => ?_)
  refine goes_ Try.func140 (by kernel_rfl) rfl #[.agg #[.pointer (some ⟨b, 0, none⟩)], .int .i64 i, .int .i64 j] (by rfl) rfl rfl (by (try simp only [List.map_toArray, List.map_cons, List.map_nil]); first | done | rfl) ?_
  refine (AT.out _ hD).mono ?_
  rintro e w1 ⟨rfl, hn1⟩
  have hN1 := hD.trans hn1
  refine ⟨_, rfl, ?_⟩
  refine hK.out _ _ ⟨hn1.row hHeld.1, hn1.row hHeld.2⟩ (fun hHeld => ?_)
  clear hK K
  refine norm_ (a' := ?_) ?_ ?_
  rotate_left
  · show Act.put _ (some 12) _ = _
    simp only [Act.put, List.setIfInBounds_toArray, List.set_cons_zero, List.set_cons_succ]
    rfl
  refine pure_ (i := 7) (N := some 13) (v := ?_) (a' := ?_) #[true, true, true, true, true, true, true, true, false, false, false] rfl rfl (any_of HT_.out (by kernel_rfl)) (fun _ _ _ h => h) (Or.inl ⟨by rfl, ?_⟩) ?_ ?_
  rotate_left
  · intro w'
    go_simp
    with_reducible rfl
  rotate_left
  · simp only [Act.put, List.setIfInBounds_toArray, List.set_cons_zero, List.set_cons_succ]
    rfl
  refine one_ (i := 8) (N := some 14) #[true, true, true, true, true, true, true, true, true, false, false] rfl rfl (one_of HT_.out (by kernel_rfl)) (by decide) (fun K hK => ?_)
  refine gives_ (v := .slice (some ⟨w1.heap.size, 0, none⟩) 1 1) (w1 := w1.alloc (.cells #[.int .i64 i, .int .i64 j, .int .i32 x] 100)) (by rfl) rfl (by go_simp) ?_
  refine hK.out _ _ ⟨hHeld.1.alloc _, hHeld.2.alloc _⟩ (fun hHeld => ?_)
  clear hK K
  refine norm_ (a' := ?_) ?_ ?_
  rotate_left
  · show Act.put _ (some 14) _ = _
    simp only [Act.put, List.setIfInBounds_toArray, List.set_cons_zero, List.set_cons_succ]
    rfl
  have hN2 := hN1.alloc (.cells #[.int .i64 (i : Int), .int .i64 (j : Int), .int .i32 x] 100)
  have hown := own_new HO.out hN2
  have hel := elems_news w1 100 [.int .i64 (i : Int), .int .i64 (j : Int), .int .i32 x]
  have hsz2 : base ≤ (w1.alloc (.cells #[.int .i64 (i : Int), .int .i64 (j : Int), .int .i32 x] 100)).heap.size := Nat.le_trans hb hN2.size
  rw [show ([.int .i64 (i : Int), .int .i64 (j : Int), .int .i32 x] : List Value).toArray = #[.int .i64 (i : Int), .int .i64 (j : Int), .int .i32 x] from rfl] at hel
  generalize w1.alloc (.cells #[.int .i64 (i : Int), .int .i64 (j : Int), .int .i32 x] 100) = w2 at hN2 hown hel hHeld hsz2 ⊢
  generalize w1.heap.size = gn at hel ⊢
  obtain ⟨v', w3, hrun, ho3, hg3, hb3⟩ := run_append_elems2 (P := Try.prog) w2 base 113 113 100 i0 (.agg #[.int .i64 0, .int .i64 0, .int .i32 0]) 3 24 Try.underlying113 hi0 hz0 hz1 hz2 rfl (by decide) _ _ _ hown _ _ 1 1 [.int .i64 (i : Int), .int .i64 (j : Int), .int .i32 x] hel rfl (by intro u hu; simp at hu; rcases hu with rfl | rfl | rfl <;> rfl) (by unfold maxLen; omega) (by omega) hsz2
  have hgF := Fr.of_grown (S := fun k => v.ownBlock = some k) hg3 (fun k hk _ => hk)
  refine one_ (i := 9) (N := some 15) #[true, true, true, true, true, true, true, true, true, true, false] rfl rfl (one_of HT_.out (by kernel_rfl)) (by decide) (fun K hK => ?_)
  refine gives_ (v := v') (w1 := w3) (by rfl) rfl (exec_append rfl rfl rfl hrun) ?_
  refine hK.out _ _ ⟨hgF.row hHeld.1 (fun e => own_ne hown hHeld.1 (by decide) e), hgF.row hHeld.2 (fun e => own_ne hown hHeld.2 (by decide) e)⟩ (fun hHeld => ?_)
  clear hK K
  refine norm_ (a' := ?_) ?_ ?_
  rotate_left
  · show Act.put _ (some 15) _ = _
    simp only [Act.put, List.setIfInBounds_toArray, List.set_cons_zero, List.set_cons_succ]
    rfl
  refine last_ (i := 10) (N := none) #[true, true, true, true, true, true, true, true, true, true, true] rfl rfl (one_of HT_.out (by kernel_rfl)) (by decide) (fun K hK => ?_)
  have cgo : w3.cell? ⟨go, 0, none⟩ = some v := hHeld.1.cell 0
  have fgo : w3.frozen? ⟨go, 0, none⟩ = false := hHeld.1.free 0
  obtain ⟨Av, cv, rfl⟩ := own_form ho3
  refine skip_ (w1 := w3.setCell ⟨go, 0, none⟩ (.slice Av (l.length + 1) cv)) (by rfl) rfl (by go_simp) ?_
  refine hK.out _ _ ?_
  clear hK K
  refine done_ (done_of HT_.out (by kernel_rfl)) ?_
  have hneg := own_ne ho3 hHeld.1 (by decide)
  go_wp2_with fail
  refine ⟨rfl, .tuple #[], results_none rfl _ _ _, rfl, _, hHeld.1.set 0 _, ?_, ?_, ?_⟩
  · have h1 := own_keep ho3 (w' := w3.setCell ⟨go, 0, none⟩ (.slice Av (l.length + 1) cv)) (fun g hg => heap_setCell_other w3 ⟨go, 0, none⟩ g _ (fun e => hneg (by rw [hg]; exact congrArg some e)))
    rw [show limRow (l ++ [⟨i, j, x⟩]) = limRow l ++ [.int .i64 (i : Int), .int .i64 (j : Int), .int .i32 x] by simp [limRow]]
    exact h1
  · exact Fr.set (Fr.then hN2 hgF (T := fun k => k = go ∨ v.ownBlock = some k) (fun _ _ e => e.elim) (fun _ _ e => .inr e)) (.inl (.inl rfl)) _
  · rcases hb3 with e | ⟨e, _⟩
    · exact .inl e
    · exact .inr ⟨_, e, hN2.size⟩
end Go.Proofs.Ytapfihlgemejiaa
-- reduce.Few: what has been put so far, plain and in memory.
namespace Go.Proofs.Ytapfihlgemejiaa
open Go.RowKit

def limOf (Z : List Int) (p : Nat × Nat) : Lim := ⟨p.1, p.2, cellN Z p.1 p.2⟩
/-- Of a class's round the first t. -/
def rpTo (Z : List Int) (l : List Nat) (t : Nat) : List (Nat × Nat) :=
  (List.range t).filterMap fun k => if 1 < l.length ∧ (l.getD k 0 ≠ 0 ∨ cellN Z 0 (l.getD ((k + 1) % l.length) 0) ≠ 1) then some (l.getD k 0, l.getD ((k + 1) % l.length) 0) else none
theorem rpTo_all (Z : List Int) (l : List Nat) : rpTo Z l l.length = roundPuts Z l := rfl
theorem rpTo_yes {Z : List Int} {l : List Nat} {t : Nat} (h : 1 < l.length ∧ (l.getD t 0 ≠ 0 ∨ cellN Z 0 (l.getD ((t + 1) % l.length) 0) ≠ 1)) : rpTo Z l (t + 1) = rpTo Z l t ++ [(l.getD t 0, l.getD ((t + 1) % l.length) 0)] := by
  unfold rpTo
  rw [List.range_succ, List.filterMap_append]
  congr 1
  simp only [List.filterMap_cons, List.filterMap_nil, if_pos h]
theorem rpTo_no {Z : List Int} {l : List Nat} {t : Nat} (h : ¬ (1 < l.length ∧ (l.getD t 0 ≠ 0 ∨ cellN Z 0 (l.getD ((t + 1) % l.length) 0) ≠ 1))) : rpTo Z l (t + 1) = rpTo Z l t := by
  unfold rpTo
  rw [List.range_succ, List.filterMap_append]
  simp only [List.filterMap_cons, List.filterMap_nil, if_neg h, List.append_nil]
theorem rpTo_length (Z : List Int) (l : List Nat) (t : Nat) : (rpTo Z l t).length ≤ t := by
  unfold rpTo
  exact Nat.le_trans (List.length_filterMap_le _ _) (by simp)
/-- Of the classes the first k. -/
def putsTo (Z : List Int) (cls : List (List Nat)) (k : Nat) : List (Nat × Nat) := (cls.take k).flatMap fun c => roundPuts Z (roundL Z c)
theorem putsTo_succ (Z : List Int) (cls : List (List Nat)) (k : Nat) (h : k < cls.length) : putsTo Z cls (k + 1) = putsTo Z cls k ++ roundPuts Z (roundL Z (cls.getD k [])) := by
  unfold putsTo
  rw [List.take_succ_eq_append_getElem h, List.flatMap_append, List.getD_eq_getElem?_getD, List.getElem?_eq_getElem h]
  simp
theorem putsTo_length (Z : List Int) (cls : List (List Nat)) (hc : ∀ k, k < cls.length → (cls.getD k []).length ≤ 9) : ∀ k, k ≤ cls.length → (putsTo Z cls k).length ≤ 9 * k
  | 0, _ => by simp [putsTo]
  | k + 1, h => by
    rw [putsTo_succ Z cls k (by omega), List.length_append]
    have h1 := putsTo_length Z cls hc k (by omega)
    have h2 := rpTo_length Z (roundL Z (cls.getD k [])) (roundL Z (cls.getD k [])).length
    rw [rpTo_all, roundL_length] at h2
    have h3 := hc k (by omega)
    omega
def pairRow (Z : List Int) (cls : List (List Nat)) (i t : Nat) : List (Nat × Nat) := ((cls.take t).filter fun d => decide (i ≠ hd d) && neededB Z i d cls).map fun d => (i, hd d)
theorem pairRow_succ (Z : List Int) (cls : List (List Nat)) (i t : Nat) (h : t < cls.length) :
    pairRow Z cls i (t + 1) = pairRow Z cls i t ++ if (decide (i ≠ hd (cls.getD t [])) && neededB Z i (cls.getD t []) cls) = true then [(i, hd (cls.getD t []))] else [] := by
  unfold pairRow
  rw [List.take_succ_eq_append_getElem h, List.filter_append, List.map_append, List.getD_eq_getElem?_getD, List.getElem?_eq_getElem h, Option.getD_some]
  congr 1
  simp only [List.filter_cons, List.filter_nil]
  split <;> simp
theorem pairRow_length (Z : List Int) (cls : List (List Nat)) (i t : Nat) : (pairRow Z cls i t).length ≤ t := by
  unfold pairRow
  rw [List.length_map]
  exact Nat.le_trans (List.length_filter_le _ _) (by rw [List.length_take]; omega)
def pairsTo (Z : List Int) (cls : List (List Nat)) (k : Nat) : List (Nat × Nat) := (cls.take k).flatMap fun c => pairRow Z cls (hd c) cls.length
theorem pairsTo_succ (Z : List Int) (cls : List (List Nat)) (k : Nat) (h : k < cls.length) : pairsTo Z cls (k + 1) = pairsTo Z cls k ++ pairRow Z cls (hd (cls.getD k [])) cls.length := by
  unfold pairsTo
  rw [List.take_succ_eq_append_getElem h, List.flatMap_append, List.getD_eq_getElem?_getD, List.getElem?_eq_getElem h]
  simp
theorem pairsTo_length (Z : List Int) (cls : List (List Nat)) (hc : cls.length ≤ 9) : ∀ k, k ≤ cls.length → (pairsTo Z cls k).length ≤ 9 * k
  | 0, _ => by simp [pairsTo]
  | k + 1, h => by
    rw [pairsTo_succ Z cls k (by omega), List.length_append]
    have h1 := pairsTo_length Z cls hc k (by omega)
    have h2 := pairRow_length Z cls (hd (cls.getD k [])) cls.length
    omega
theorem fewL_eq (Z : List Int) (n : Nat) : fewL Z n = putsTo Z (classesL Z n) (classesL Z n).length ++ pairsTo Z (classesL Z n) (classesL Z n).length := by
  unfold fewL putsTo pairsTo pairRow
  simp only [List.take_length]
theorem classesL_ok (Z : List Int) (n : Nat) (hn : n ≤ 8) : ClsOk n (classesL Z n) := by
  refine ⟨?_, fun k hk => ?_⟩
  · unfold classesL
    refine Nat.le_trans (List.length_filter_le _ _) ?_
    simp; omega
  · have hm : (classesL Z n).getD k [] ∈ classesL Z n := by
      rw [List.getD_eq_getElem?_getD, List.getElem?_eq_getElem hk]; exact List.getElem_mem hk
    generalize (classesL Z n).getD k [] = c at hm
    unfold classesL at hm
    rw [List.mem_filter, List.mem_map] at hm
    obtain ⟨⟨y, _, rfl⟩, h2⟩ := hm
    refine ⟨?_, ?_, fun i => ?_⟩
    · apply List.length_pos_iff.2
      intro e
      rw [e] at h2
      cases h2
    · exact Nat.le_trans (memTo_length Z _ _) (by omega)
    · by_cases hi : i < (memTo Z (n + 1) y).length
      · have h3 : (memTo Z (n + 1) y).getD i 0 ∈ memTo Z (n + 1) y := by
          rw [List.getD_eq_getElem?_getD, List.getElem?_eq_getElem hi]; exact List.getElem_mem hi
        unfold memTo at h3
        rw [List.mem_filter] at h3
        have h4 := List.mem_range.1 h3.1
        unfold memTo
        omega
      · rw [List.getD_eq_getElem?_getD, List.getElem?_eq_none (by omega)]; exact Nat.zero_le _
theorem classesL_pos (Z : List Int) (n : Nat) : 0 < (classesL Z n).length := by
  apply List.length_pos_iff.2
  intro e
  have h0 : memTo Z (n + 1) 0 ∈ classesL Z n := by
    unfold classesL
    rw [List.mem_filter, List.mem_map]
    refine ⟨⟨0, by simp, rfl⟩, ?_⟩
    have : (0 : Nat) ∈ memTo Z (n + 1) 0 := by
      unfold memTo
      rw [List.mem_filter]
      exact ⟨by simp, by rw [headOf_eq]; rfl⟩
    cases hm : memTo Z (n + 1) 0 with
    | nil => rw [hm] at this; cases this
    | cons x l => rfl
  rw [e] at h0
  cases h0

/-- Blocks of these element types are as they were. -/
def KeptT (S : TypeId → Prop) (w w' : World) : Prop := ∀ (g : Nat) (cur : Array Value) (t : TypeId), S t → w.heap[g]? = some (Obj.cells cur t (0, 0)) → w'.heap[g]? = w.heap[g]?
theorem KeptT.own {S : TypeId → Prop} {w w' : World} (hk : KeptT S w w') {base e size n : Nat} {v : Value} {xs : List Value} (h : w.ownsRow base e size v n xs) (he : S e) : w'.ownsRow base e size v n xs :=
  own_keep h fun g hg => by
    obtain ⟨_, cur, h2⟩ := own_row h hg
    exact hk g cur e he h2
theorem KeptT.row {S : TypeId → Prop} {w w' : World} (hk : KeptT S w w') {g : Nat} {t : TypeId} {cs : List Value} (h : Row w g t cs) (ht : S t) : Row w' g t cs := (hk g _ t ht h).trans h
theorem KeptT.lol {S : TypeId → Prop} {w w' : World} (hk : KeptT S w w') {base : Nat} {v : Value} {ls : List (List Nat)} (h : LolAt base w v ls) (h25 : S 25) (h3 : S 3) : LolAt base w' v ls := by
  obtain ⟨bs, h1, h2, h4, h5⟩ := h
  exact ⟨bs, h1, hk.own h2 h25, fun i u hu => hk.own (h4 i u hu) h3, h5⟩
theorem New.kept {S : TypeId → Prop} {w w' : World} (h : New w w') : KeptT S w w' := fun g _ _ _ hg => h.block g (Array.getElem?_eq_some_iff.1 hg).1 (fun e => e)
/-- What 'put' leaves alone. -/
theorem PutPost.kept {base go : Nat} {v : Value} {l : List Lim} {x : Lim} {w w' : World} {e : Ending} (h : PutPost base go v l x w e w') (hgo : Row w go 113 [v]) (ho : w.ownsRow base 100 3 v l.length (limRow l)) :
    KeptT (fun t => t ≠ 113 ∧ t ≠ 100) w w' := fun g cur t ht hg => by
  obtain ⟨_, v', _, _, hf, _⟩ := h
  refine hf.block g (Array.getElem?_eq_some_iff.1 hg).1 (fun e => ?_)
  rcases e with e | e
  · subst e
    have := hg.symm.trans hgo
    simp only [Option.some.injEq, Obj.cells.injEq] at this
    exact ht.1 this.2.1
  · obtain ⟨_, cur2, h2⟩ := own_row ho e
    have := hg.symm.trans h2
    simp only [Option.some.injEq, Obj.cells.injEq] at this
    exact ht.2 this.2.1

/-- Few on its way: what it has put so far. -/
structure FewSt (w wr : World) (b gr go : Nat) (z : Zn) (vC : Value) (lo : List (Nat × Nat)) : Prop where
  zone : ZoneAt w b z
  new : New w wr
  rr : Row wr gr 196 [.pointer (some ⟨b, 0, none⟩)]
  cls : LolAt w.heap.size wr vC (classesL z.Z z.n)
  out : ∃ v, Row wr go 113 [v] ∧ wr.ownsRow w.heap.size 100 3 v lo.length (limRow (lo.map (limOf z.Z)))
  hgo : w.heap.size ≤ go
theorem FewSt.step {w wr w' : World} {b gr go : Nat} {z : Zn} {vC : Value} {lo : List (Nat × Nat)} (h : FewSt w wr b gr go z vC lo) (hn : New wr w') : FewSt w w' b gr go z vC lo := by
  obtain ⟨v, h1, h2⟩ := h.out
  exact ⟨h.zone, h.new.trans hn, hn.row h.rr, h.cls.new hn, ⟨v, hn.row h1, own_new h2 hn⟩, h.hgo⟩
theorem FewSt.zoneR {w wr : World} {b gr go : Nat} {z : Zn} {vC : Value} {lo : List (Nat × Nat)} (h : FewSt w wr b gr go z vC lo) : ZoneAt wr b z := h.zone.new h.new
/-- One bound more. -/
theorem FewSt.put {w wr : World} {b gr go : Nat} {z : Zn} {vC : Value} {lo : List (Nat × Nat)} (h : FewSt w wr b gr go z vC lo) (hl : lo.length ≤ 200) (i j : Nat) (hi : i ≤ z.n) (hj : j ≤ z.n) :
    Calls Try.prog 139 #[.int .i64 i, .int .i64 j, .pointer (some ⟨go, 0, none⟩), .pointer (some ⟨gr, 0, none⟩)] wr fun e w' => e = .returned (.tuple #[]) ∧ FewSt w w' b gr go z vC (lo ++ [(i, j)]) ∧ KeptT (fun t => t ≠ 113 ∧ t ≠ 100) wr w' := by
  obtain ⟨v, h1, h2⟩ := h.out
  have h3 : (lo.map (limOf z.Z)).length = lo.length := by simp
  have h2' := h2
  rw [← h3] at h2'
  refine (put_any b gr go w.heap.size i j z v (lo.map (limOf z.Z)) wr h.zoneR h.rr h1 h2' (by omega) hi hj h.new.size).mono (fun e w' hp => ?_)
  have hk := hp.kept h1 h2'
  obtain ⟨he, v', hr', ho', hf, _⟩ := hp
  refine ⟨he, ⟨h.zone, ?_, hk.row h.rr (by decide), hk.lol h.cls (by decide) (by decide), ⟨v', hr', ?_⟩, h.hgo⟩, hk⟩
  · refine Fr.then h.new hf (fun _ _ e => e) (fun k hk e => ?_)
    rcases e with e | e
    · have := h.hgo; omega
    · have := (own_row h2 e).1; omega
  · rw [List.map_append, List.length_append]
    rw [h3] at ho'
    exact ho'
end Go.Proofs.Ytapfihlgemejiaa
