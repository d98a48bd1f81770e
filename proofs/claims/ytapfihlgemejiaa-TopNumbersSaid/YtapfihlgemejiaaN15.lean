/- bound: Sum, Add. -/
import Derived.Test.YtapfihlgemejiaaN14
namespace Go.Proofs.Ytapfihlgemejiaa
open Go.RowKit

def trow (v : Int) (r : Bool) : List Value := [.int .i64 v, .bool r, .bool false, .bool false]
set_option maxHeartbeats 1000000 in
theorem sum1_any (v : Int) (r : Bool) (x : Int) (s : Bool) (h1 : -268435456 ≤ v) (h2 : v ≤ 268435456) (h3 : -268435456 ≤ x) (h4 : x ≤ 268435456) (w : World) :
    Calls Try.prog 168 #[.agg #[.int .i64 v, .bool r, .bool false, .bool false], .int .i32 (enc x s)] w fun e w' => e = .returned (.agg #[.int .i64 (v + x), .bool (r && s), .bool false, .bool false]) ∧ New w w' := by
  obtain ⟨g1, g2⟩ := enc_range (r := s) h3 h4
  have VA := Lib.hid (fun W => value_any x s h3 h4 W)
  have hne : (enc x s == 2147483647) = false := by simp; omega
  generalize enc x s = b at *
  cases r
  · go_enter Try.func168, Try.ntmps168
    go_wp2_with fail
    refine (VA.out _).mono ?_
    rintro e w' ⟨rfl, rfl⟩
    go_wp2_with fail
    exact bodyPost_ret (v := .agg #[.int .i64 (v + x), .bool false, .bool false, .bool false]) (by simp [results, Try.results168, go_sem]) rfl ⟨by simp, ((New.refl w).alloc _).alloc _⟩
  · go_enter Try.func168, Try.ntmps168
    go_wp2_with fail
    refine (VA.out _).mono ?_
    rintro e w' ⟨rfl, rfl⟩
    go_wp2_with fail
    exact bodyPost_ret (v := .agg #[.int .i64 (v + x), .bool s, .bool false, .bool false]) (by simp [results, Try.results168, go_sem]) rfl ⟨by simp, ((New.refl w).alloc _).alloc _⟩
/-- What the fold has behind k of two bounds. -/
def Part (x y : Int) (s t : Bool) (k : Nat) (v : Int) (r : Bool) : Prop := (k = 0 ∧ v = 0 ∧ r = true) ∨ (k = 1 ∧ v = x ∧ r = s) ∨ (k = 2 ∧ v = x + y ∧ r = (s && t))
set_option maxRecDepth 100000 in
set_option maxHeartbeats 1000000 in
theorem fold_any (x y : Int) (s t : Bool) (g c : Nat) (h1 : -134217728 ≤ x) (h2 : x ≤ 134217728) (h3 : -134217728 ≤ y) (h4 : y ≤ 134217728) (w : World)
    (hg0 : w.cell? ⟨g, 0, none⟩ = some (.int .i32 (enc x s))) (hg1 : w.cell? ⟨g, 1, none⟩ = some (.int .i32 (enc y t))) (hg : g < w.heap.size) :
    Calls Try.prog 167 #[.agg #[.int .i64 0, .bool true, .bool false, .bool false], .slice (some ⟨g, 0, none⟩) 2 c, .func (.func 168) #[] #[]] w fun e w' => e = .returned (.agg #[.int .i64 (x + y), .bool (s && t), .bool false, .bool false]) ∧ New w w' := by
  have S1 := Lib.hid (fun W => sum1_any 0 true x s (by omega) (by omega) (by omega) (by omega) W)
  have S2 := Lib.hid (fun W => sum1_any x s y t (by omega) (by omega) (by omega) (by omega) W)
  have G0 := Lib.hid (fun W (hn : New w W) => (hn.cells g 0 hg).trans hg0)
  have G1 := Lib.hid (fun W (hn : New w W) => (hn.cells g 1 hg).trans hg1)
  generalize enc x s = bx at *
  generalize enc y t = bz at *
  clear hg0 hg1 h1 h2 h3 h4
  go_enter Try.func167, Try.ntmps167
  go_wp2_with fail
  go_loopw [11] (fun ci wr => ∃ k : Nat, k ≤ 2 ∧ ci = .int .i64 k ∧ ∃ v r, Part x y s t k v r ∧ Row wr w.heap.size 254 (trow v r) ∧ Row wr (w.heap.size + 1) 254 (trow 0 false) ∧ New w wr)
    (fun ci _ => 2 - (intOf ci).toNat)
  case atStart => exact ⟨0, by omega, rfl, 0, true, .inl ⟨rfl, rfl, rfl⟩, (Row.new_at w 254 (trow 0 true) rfl).alloc _, Row.new_at (w.alloc (.cells (trow 0 true).toArray 254)) 254 (trow 0 false) (by simp), ((New.refl w).alloc _).alloc _⟩
  case round =>
    obtain ⟨k, hk, rfl, v, r, hp, hr, hz, hn⟩ := hrel
    have a0 : wr.cell? ⟨w.heap.size, 0, none⟩ = some (.int .i64 v) := hr.cell 0
    have a1 : wr.cell? ⟨w.heap.size, 1, none⟩ = some (.bool r) := hr.cell 1
    have a2 : wr.cell? ⟨w.heap.size, 2, none⟩ = some (.bool false) := hr.cell 2
    have a3 : wr.cell? ⟨w.heap.size, 3, none⟩ = some (.bool false) := hr.cell 3
    have e0 := G0.out wr hn
    have e1 := G1.out wr hn
    have HN := Lib.hid hn
    have HR := Lib.hid hr
    have HZ := Lib.hid hz
    clear hn hr
    rcases hp with ⟨rfl, hv, hr'⟩ | ⟨rfl, hv, hr'⟩ | ⟨rfl, hv, hr'⟩
    · subst v r
      clear hz
      go_wp2_with fail
      refine (S1.out _).mono ?_
      rintro e w2 ⟨rfl, hn2⟩
      have R2 := hn2.row HR.out
      have b0 : w2.cell? ⟨w.heap.size, 0, none⟩ = some (.int .i64 0) := R2.cell 0
      have b1 : w2.cell? ⟨w.heap.size, 1, none⟩ = some (.bool true) := R2.cell 1
      have b2 : w2.cell? ⟨w.heap.size, 2, none⟩ = some (.bool false) := R2.cell 2
      have b3 : w2.cell? ⟨w.heap.size, 3, none⟩ = some (.bool false) := R2.cell 3
      have f0 := R2.free 0
      have f1 := R2.free 1
      have f2 := R2.free 2
      have f3 := R2.free 3
      have H2 := Lib.hid R2
      have N2 := Lib.hid (HN.out.trans hn2)
      have Z2 := Lib.hid (hn2.row HZ.out)
      clear a0 a1 a2 a3 e0 e1 HN HR HZ hn2 R2
      go_wp2_with fail
      exact ⟨⟨1, by omega, rfl, x, s, .inr (.inl ⟨rfl, rfl, rfl⟩), (((H2.out.set 0 (.int .i64 x)).set 1 (.bool s)).set 2 (.bool false)).set 3 (.bool false),
        (Z2.out.far2 w.heap.size (by omega) 0 1 (.int .i64 x) (.bool s)).far2 w.heap.size (by omega) 2 3 (.bool false) (.bool false),
        new_set (new_set3 N2.out w.heap.size (Nat.le_refl _) 0 1 2 (.int .i64 x) (.bool s) (.bool false)) w.heap.size (Nat.le_refl _) 3 (.bool false)⟩, by simp [intOf]⟩
    · subst v r
      clear hz
      go_wp2_with fail
      refine (S2.out _).mono ?_
      rintro e w2 ⟨rfl, hn2⟩
      have R2 := hn2.row HR.out
      have b0 : w2.cell? ⟨w.heap.size, 0, none⟩ = some (.int .i64 x) := R2.cell 0
      have b1 : w2.cell? ⟨w.heap.size, 1, none⟩ = some (.bool s) := R2.cell 1
      have b2 : w2.cell? ⟨w.heap.size, 2, none⟩ = some (.bool false) := R2.cell 2
      have b3 : w2.cell? ⟨w.heap.size, 3, none⟩ = some (.bool false) := R2.cell 3
      have f0 := R2.free 0
      have f1 := R2.free 1
      have f2 := R2.free 2
      have f3 := R2.free 3
      have H2 := Lib.hid R2
      have N2 := Lib.hid (HN.out.trans hn2)
      have Z2 := Lib.hid (hn2.row HZ.out)
      clear a0 a1 a2 a3 e0 e1 HN HR HZ hn2 R2
      go_wp2_with fail
      exact ⟨⟨2, by omega, rfl, (x + y), (s && t), .inr (.inr ⟨rfl, rfl, rfl⟩), (((H2.out.set 0 (.int .i64 (x + y))).set 1 (.bool (s && t))).set 2 (.bool false)).set 3 (.bool false),
        (Z2.out.far2 w.heap.size (by omega) 0 1 (.int .i64 (x + y)) (.bool (s && t))).far2 w.heap.size (by omega) 2 3 (.bool false) (.bool false),
        new_set (new_set3 N2.out w.heap.size (Nat.le_refl _) 0 1 2 (.int .i64 (x + y)) (.bool (s && t)) (.bool false)) w.heap.size (Nat.le_refl _) 3 (.bool false)⟩, by simp [intOf]⟩
    · subst v r
      have z0 : wr.cell? ⟨w.heap.size + 1, 0, none⟩ = some (.int .i64 0) := hz.cell 0
      have z1 : wr.cell? ⟨w.heap.size + 1, 1, none⟩ = some (.bool false) := hz.cell 1
      have z2 : wr.cell? ⟨w.heap.size + 1, 2, none⟩ = some (.bool false) := hz.cell 2
      have z3 : wr.cell? ⟨w.heap.size + 1, 3, none⟩ = some (.bool false) := hz.cell 3
      have f0 := hz.free 0
      have f1 := hz.free 1
      have f2 := hz.free 2
      have f3 := hz.free 3
      have Z2 := Lib.hid ((((hz.set 0 (.int .i64 (x + y))).set 1 (.bool (s && t))).set 2 (.bool false)).set 3 (.bool false))
      have N2 := Lib.hid (new_set (new_set3 HN.out (w.heap.size + 1) (by omega) 0 1 2 (.int .i64 (x + y)) (.bool (s && t)) (.bool false)) (w.heap.size + 1) (by omega) 3 (.bool false))
      clear hz HZ HR HN
      go_wp2_with fail
      generalize (((wr.setCell ⟨w.heap.size + 1, 0, none⟩ (.int .i64 (x + y))).setCell ⟨w.heap.size + 1, 1, none⟩ (.bool (s && t))).setCell ⟨w.heap.size + 1, 2, none⟩ (.bool false)).setCell ⟨w.heap.size + 1, 3, none⟩ (.bool false) = w3 at *
      have z0 : w3.cell? ⟨w.heap.size + 1, 0, none⟩ = some (.int .i64 (x + y)) := Z2.out.cell 0
      have z1 : w3.cell? ⟨w.heap.size + 1, 1, none⟩ = some (.bool (s && t)) := Z2.out.cell 1
      have z2 : w3.cell? ⟨w.heap.size + 1, 2, none⟩ = some (.bool false) := Z2.out.cell 2
      have z3 : w3.cell? ⟨w.heap.size + 1, 3, none⟩ = some (.bool false) := Z2.out.cell 3
      exact bodyPost_ret (v := .agg #[.int .i64 (x + y), .bool (s && t), .bool false, .bool false]) (by simp [results, Try.results167, go_sem, z0, z1, z2, z3]) rfl ⟨rfl, N2.out⟩
set_option maxRecDepth 100000 in
set_option maxHeartbeats 1000000 in
theorem bsum_any (x y : Int) (s t : Bool) (g c : Nat) (h1 : -134217728 ≤ x) (h2 : x ≤ 134217728) (h3 : -134217728 ≤ y) (h4 : y ≤ 134217728) (w : World)
    (hg0 : w.cell? ⟨g, 0, none⟩ = some (.int .i32 (enc x s))) (hg1 : w.cell? ⟨g, 1, none⟩ = some (.int .i32 (enc y t))) (hg : g < w.heap.size) :
    Calls Try.prog 116 #[.slice (some ⟨g, 0, none⟩) 2 c] w fun e w' => e = .returned (.tuple #[.int .i32 (enc (x + y) (s && t)), .int .i64 0]) ∧ New w w' := by
  have BM := Lib.hid (fun W => bmade_any (x + y) (s && t) (by omega) (by omega) W)
  have FO := Lib.hid (fold_any x y s t g c h1 h2 h3 h4 w hg0 hg1 hg)
  generalize enc (x + y) (s && t) = b at *
  generalize x + y = v at *
  generalize (s && t) = r at *
  clear hg0 hg1 hg h1 h2 h3 h4
  go_enter Try.func116, Try.ntmps116
  go_wp2_with fail
  refine FO.out.mono ?_
  rintro e w2 ⟨rfl, hn2⟩
  go_wp2_with fail
  refine (BM.out _).mono ?_
  rintro e w' ⟨rfl, rfl⟩
  go_wp2_with fail
  go_ret2
  exact ⟨rfl, hn2.alloc _⟩
set_option maxHeartbeats 1000000 in
theorem badd_any (x y : Int) (s t : Bool) (h1 : -134217728 ≤ x) (h2 : x ≤ 134217728) (h3 : -134217728 ≤ y) (h4 : y ≤ 134217728) (w : World) :
    Calls Try.prog 47 #[.int .i32 (enc x s), .int .i32 (enc y t)] w fun e w' => e = .returned (.tuple #[.int .i32 (enc (x + y) (s && t)), .int .i64 0]) ∧ New w w' := by
  have hr := Row.new_at w 76 [.int .i32 (enc x s), .int .i32 (enc y t)] (g := w.heap.size) rfl
  have BS := Lib.hid (bsum_any x y s t w.heap.size 2 h1 h2 h3 h4 _ (hr.cell 0) (hr.cell 1) hr.lt)
  clear hr h1 h2 h3 h4
  generalize enc (x + y) (s && t) = b at *
  generalize enc x s = bx at *
  generalize enc y t = bz at *
  go_enter Try.func47, Try.ntmps47
  go_wp2_with fail
  refine BS.out.mono ?_
  rintro e w' ⟨rfl, hn⟩
  go_wp2_with fail
  go_ret2
  exact ⟨rfl, ((New.refl w).alloc _).trans hn⟩
end Go.Proofs.Ytapfihlgemejiaa
