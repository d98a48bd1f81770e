/- Walks over package dbm: Empty, Dim, Cell, alike, Includes. -/
import Derived.Test.YtapfihlgemejiaaD0
import Derived.Test.YtapfihlgemejiaaA0
namespace Go.Proofs.Ytapfihlgemejiaa
open Go.RowKit

/-- Block b is a zone's. -/
structure ZoneAt (w : World) (b : Nat) (z : Zn) : Prop where
  row : Row w b 177 (zoneRow z.n z.Z)
  len : z.Z.length = 81
  dim : z.n ≤ 8

section
variable {w w' : World} {b : Nat} {z : Zn}
theorem ZoneAt.fr {S : Nat → Prop} (h : ZoneAt w b z) (hb : Fr S w w') (hs : ¬ S b) : ZoneAt w' b z := ⟨hb.row h.row hs, h.len, h.dim⟩
theorem ZoneAt.new (h : ZoneAt w b z) (hb : New w w') : ZoneAt w' b z := h.fr hb (fun e => e)
theorem ZoneAt.drew (h : ZoneAt w b z) : ZoneAt w.drew b z := ⟨h.row, h.len, h.dim⟩
theorem ZoneAt.drewN (h : ZoneAt w b z) (k : Nat) : ZoneAt (w.drewN k) b z := ⟨h.row, h.len, h.dim⟩
theorem ZoneAt.n_at (h : ZoneAt w b z) : w.cell? ⟨b, 0, none⟩ = some (.int .i64 z.n) := zone_dim h.row
theorem ZoneAt.at_ (h : ZoneAt w b z) (i j : Nat) (hi : i < 9) (hj : j < 9) : w.cell? ⟨b, 1 + i * 9 + j, none⟩ = some (.int .i32 (gt z.Z (9 * i + j))) := zone_at h.row i j h.len hi hj
end

set_option maxHeartbeats 400000 in
theorem empty_any (b : Nat) (z : Zn) (w : World) (h : ZoneAt w b z) :
    Calls Try.prog 56 #[.pointer (some ⟨b, 0, none⟩)] w fun e w' => e = .returned (.bool (emptyB z.Z)) ∧ w = w' := by
  have hc := h.at_ 0 0 (by omega) (by omega)
  have hq : emptyB z.Z = decide (gt z.Z 0 < 1) := rfl
  rw [hq]
  clear hq h
  go_enter Try.func56, Try.ntmps56
  go_wp2
  go_ret
  exact ⟨rfl, rfl⟩
set_option maxHeartbeats 400000 in
theorem empty_nil (w : World) :
    Calls Try.prog 56 #[.pointer none] w fun e w' => e = .returned (.bool false) ∧ w = w' := by
  go_enter Try.func56, Try.ntmps56
  go_wp2
  go_ret
  exact ⟨rfl, rfl⟩
set_option maxHeartbeats 400000 in
theorem dim_any (b : Nat) (z : Zn) (w : World) (h : ZoneAt w b z) :
    Calls Try.prog 58 #[.pointer (some ⟨b, 0, none⟩)] w fun e w' => e = .returned (.int .i64 z.n) ∧ w = w' := by
  have hc := h.n_at
  clear h
  go_enter Try.func58, Try.ntmps58
  go_wp2
  go_ret
  exact ⟨rfl, rfl⟩
set_option maxHeartbeats 400000 in
theorem cell_any (b : Nat) (z : Zn) (i j : Nat) (w : World) (h : ZoneAt w b z) (hi : i ≤ z.n) (hj : j ≤ z.n) :
    Calls Try.prog 124 #[.pointer (some ⟨b, 0, none⟩), .int .i64 i, .int .i64 j] w fun e w' => e = .returned (.tuple #[.int .i32 (gt z.Z (9 * i + j)), .int .i64 0]) ∧ w = w' := by
  have hc := h.n_at
  have hd := h.dim
  have hc2 := h.at_ i j (by omega) (by omega)
  have hi9 : (i : Int) < 9 := by omega
  have hj9 : (j : Int) < 9 := by omega
  clear h
  go_enter Try.func124, Try.ntmps124
  go_wp2
  go_ret2
  exact ⟨rfl, rfl⟩
set_option maxHeartbeats 400000 in
theorem alike_nil_left (v : Option Addr) (w : World) :
    Calls Try.prog 117 #[.pointer none, .pointer v] w fun e w' => e = .returned (.bool false) ∧ ∃ n, w' = w.drewN n := by
  go_enter Try.func117, Try.ntmps117
  go_wp2
  go_quiet (fail)
  go_wp2
  go_ret
  exact ⟨rfl, _, rfl⟩
set_option maxHeartbeats 400000 in
theorem alike_nil_right (v : Addr) (w : World) :
    Calls Try.prog 117 #[.pointer (some v), .pointer none] w fun e w' => e = .returned (.bool false) ∧ ∃ n, w' = w.drewN n := by
  go_enter Try.func117, Try.ntmps117
  go_wp2
  go_quiet (fail)
  go_wp2
  go_ret
  exact ⟨rfl, _, rfl⟩
set_option maxHeartbeats 400000 in
theorem alike_any (a b : Nat) (y z : Zn) (w : World) (hy : ZoneAt w a y) (hz : ZoneAt w b z) :
    Calls Try.prog 117 #[.pointer (some ⟨a, 0, none⟩), .pointer (some ⟨b, 0, none⟩)] w fun e w' => e = .returned (.bool (decide (y.n = z.n))) ∧ ∃ n, w' = w.drewN n := by
  have hc := hy.n_at
  have hd := hz.n_at
  clear hy hz
  go_enter Try.func117, Try.ntmps117
  go_wp2
  go_quiet (fail)
  go_wp2
  go_ret
  refine ⟨?_, _, rfl⟩
  have e : decide (y.n = z.n) = ((y.n : Int) == (z.n : Int)) := by
    rw [Bool.eq_iff_iff]; simp only [decide_eq_true_eq, beq_iff_eq]; omega
  rw [e]
  rfl

theorem ZoneAt.of_drew {w w' : World} {b : Nat} {z : Zn} (h : ZoneAt w b z) (hd : Drew w w') : ZoneAt w' b z := h.new hd.new

theorem includes_nil_left (v : Option Addr) (w : World) :
    Calls Try.prog 60 #[.pointer none, .pointer v] w fun e w' => e = .returned (.bool false) ∧ ∃ n, w' = w.drewN n := by
  have H := Lib.hid (alike_nil_left v w)
  go_enter Try.func60, Try.ntmps60
  go_wp2_with fail
  refine H.out.mono ?_
  rintro e w' ⟨rfl, n, rfl⟩
  go_wp2
  go_ret
  exact ⟨rfl, _, rfl⟩
theorem includes_nil_right (v : Addr) (w : World) :
    Calls Try.prog 60 #[.pointer (some v), .pointer none] w fun e w' => e = .returned (.bool false) ∧ ∃ n, w' = w.drewN n := by
  have H := Lib.hid (alike_nil_right v w)
  go_enter Try.func60, Try.ntmps60
  go_wp2_with fail
  refine H.out.mono ?_
  rintro e w' ⟨rfl, n, rfl⟩
  go_wp2
  go_ret
  exact ⟨rfl, _, rfl⟩

set_option maxRecDepth 100000 in
set_option maxHeartbeats 1000000 in
theorem includes_alike (a b : Nat) (y z : Zn) (w : World) (hy : ZoneAt w a y) (hz : ZoneAt w b z) (hn : y.n = z.n) :
    Calls Try.prog 60 #[.pointer (some ⟨a, 0, none⟩), .pointer (some ⟨b, 0, none⟩)] w fun e w' => e = .returned (.bool (inclB y z)) ∧ ∃ n, w' = w.drewN n := by
  have hal := alike_any a b y z w hy hz
  rw [hn, decide_eq_true rfl] at hal
  have H := Lib.hid hal
  have HN := Lib.hid hn
  have hyn := hy.dim
  clear hal hn
  go_enter Try.func60, Try.ntmps60
  go_wp2_with fail
  refine H.out.mono ?_
  rintro e w' ⟨rfl, n, rfl⟩
  have hy' := hy.drewN n
  have hz' := hz.drewN n
  have hd' : Drew w (w.drewN n) := ⟨n, rfl⟩
  clear hy hz
  generalize w.drewN n = w1 at *
  have hc := hy'.n_at
  go_wp2
  go_loopw [17] (fun c wr => ∃ i : Nat, i ≤ y.n + 1 ∧ c = .int .i64 i ∧ ZoneAt wr a y ∧ ZoneAt wr b z ∧ Drew w wr ∧ (emptyB z.Z = true ∨ ∀ p q, p < i → q ≤ y.n → gt z.Z (9 * p + q) ≤ gt y.Z (9 * p + q)))
    (fun c _ => y.n + 1 - (intOf c).toNat)
  case atStart => exact ⟨0, by omega, rfl, hy', hz', hd', .inr fun p q hp => by omega⟩
  case round =>
    obtain ⟨i, hi, rfl, hy, hz, hd, hall⟩ := hrel
    clear hc hy' hz' hd'
    have hc := hy.n_at
    by_cases hit : i < y.n + 1
    · have hdt : decide ((i : Int) < (y.n : Int) + 1) = true := by simp; omega
      have HALL := Lib.hid hall
      clear hall
      go_wp2
      clear hdt
      obtain ⟨wo, rfl⟩ : ∃ wo : World, wo = wr := ⟨_, rfl⟩
      go_loopw [26] (fun c wr => ∃ j : Nat, j ≤ y.n + 1 ∧ c = .int .i64 j ∧ ZoneAt wr a y ∧ ZoneAt wr b z ∧ Drew w wr ∧ (emptyB z.Z = true ∨ ∀ q, q < j → gt z.Z (9 * i + q) ≤ gt y.Z (9 * i + q)))
        (fun c _ => y.n + 1 - (intOf c).toNat)
      case atStart => exact ⟨0, by omega, rfl, hy, hz, hd, .inr fun q hq => by omega⟩
      case round =>
        obtain ⟨j, hj, rfl, hy, hz, hd, hall2⟩ := hrel
        clear hc
        have HALL2 := Lib.hid hall2
        clear hall2
        by_cases hjt : j < y.n + 1
        · have hdt : decide ((j : Int) < (y.n : Int) + 1) = true := by simp; omega
          have hi9 : (i : Int) < 9 := by omega
          have hj9 : (j : Int) < 9 := by omega
          have hc1 := hy.at_ i j (by omega) (by omega)
          have hc2 := hz.at_ i j (by omega) (by omega)
          have hem := fun k => empty_any b z (wr.drewN k) (hz.drewN k)
          by_cases he : emptyB z.Z = true
          · simp only [he] at hem
            have HE := Lib.hid hem
            clear hem
            go_wp2
            go_quiet ((go_at_call 56; exact (HE.out _).mono (fun _ _ h => ⟨h.1, _, h.2.symm⟩)))
            go_wp2
            exact ⟨⟨j + 1, by omega, by go_num, hy.drewN _, hz.drewN _, hd.drewN _, .inl he⟩, by simp [intOf]; omega⟩
          · have he : emptyB z.Z = false := by simpa using he
            simp only [he] at hem
            have HE := Lib.hid hem
            clear hem
            by_cases hgt : gt y.Z (9 * i + j) < gt z.Z (9 * i + j)
            · have hno := inclB_not he (show i ≤ y.n by omega) (show j ≤ y.n by omega) hgt
              have HNO := Lib.hid hno
              have hdg : decide (gt y.Z (9 * i + j) < gt z.Z (9 * i + j)) = true := by simpa using hgt
              clear hno
              go_wp2
              go_quiet ((go_at_call 56; exact (HE.out _).mono (fun _ _ h => ⟨h.1, _, h.2.symm⟩)))
              go_wp2
              go_ret
              rw [HNO.out]
              exact ⟨rfl, hd.drewN _⟩
            · have hdg : decide (gt y.Z (9 * i + j) < gt z.Z (9 * i + j)) = false := by simpa using hgt
              have hall3 : emptyB z.Z = true ∨ ∀ q, q < j + 1 → gt z.Z (9 * i + q) ≤ gt y.Z (9 * i + q) := by
                rcases HALL2.out with h | h
                · exact .inl h
                · refine .inr fun q hq => ?_
                  by_cases hqj : q = j
                  · subst hqj; omega
                  · exact h q (by omega)
              have HALL3 := Lib.hid hall3
              clear hall3
              go_wp2
              go_quiet ((go_at_call 56; exact (HE.out _).mono (fun _ _ h => ⟨h.1, _, h.2.symm⟩)))
              go_wp2
              exact ⟨⟨j + 1, by omega, by go_num, hy.drewN _, hz.drewN _, hd.drewN _, HALL3.out⟩, by simp [intOf]; omega⟩
        · have : j = y.n + 1 := by omega
          subst this
          have hall3 : emptyB z.Z = true ∨ ∀ p q, p < i + 1 → q ≤ y.n → gt z.Z (9 * p + q) ≤ gt y.Z (9 * p + q) := by
            rcases HALL.out with h | h
            · exact .inl h
            · rcases HALL2.out with h2 | h2
              · exact .inl h2
              · refine .inr fun p q hp hq => ?_
                by_cases hpi : p = i
                · subst hpi; exact h2 q (by omega)
                · exact h p q (by omega) hq
          have HALL3 := Lib.hid hall3
          clear hall3
          go_wp2
          exact ⟨⟨i + 1, by omega, by go_num, hy, hz, hd, HALL3.out⟩, by simp [intOf]; omega⟩
    · have : i = y.n + 1 := by omega
      subst this
      have hyes : inclB y z = true := (inclB_iff y z).2 ⟨HN.out, hall.imp id fun h p q hp hq => h p q (by omega) hq⟩
      have HY := Lib.hid hyes
      clear hyes hall
      go_wp2
      go_ret
      rw [HY.out]
      exact ⟨rfl, hd⟩

theorem includes_any (a b : Nat) (y z : Zn) (w : World) (hy : ZoneAt w a y) (hz : ZoneAt w b z) :
    Calls Try.prog 60 #[.pointer (some ⟨a, 0, none⟩), .pointer (some ⟨b, 0, none⟩)] w fun e w' => e = .returned (.bool (inclB y z)) ∧ ∃ n, w' = w.drewN n := by
  by_cases hn : y.n = z.n
  · exact includes_alike a b y z w hy hz hn
  · have hal := alike_any a b y z w hy hz
    rw [decide_eq_false hn] at hal
    rw [inclB_dim hn]
    have H := Lib.hid hal
    clear hal hn hy hz
    go_enter Try.func60, Try.ntmps60
    go_wp2_with fail
    refine H.out.mono ?_
    rintro e w' ⟨rfl, n, rfl⟩
    go_wp2
    go_ret
    exact ⟨rfl, _, rfl⟩
end Go.Proofs.Ytapfihlgemejiaa
