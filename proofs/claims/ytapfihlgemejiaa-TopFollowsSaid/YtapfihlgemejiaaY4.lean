/- Walks over package ops: less, forget. -/
import Derived.Test.YtapfihlgemejiaaD0
namespace Go.Proofs.Ytapfihlgemejiaa
open Go.RowKit

set_option maxHeartbeats 400000 in
/-- less: the cell is turned as min turns it. -/
theorem less_bound (b : Nat) (n : Int) (L : List Int) (i j : Nat) (v : Int) (w : World) (hL : L.length = 81) (hi : i < 9) (hj : j < 9) (hw : Row w b 183 (zoneRow n L)) :
    Calls Try.prog 122 #[.pointer (some ⟨b, 0, none⟩), .int .i64 i, .int .i64 j, .int .i32 v] w fun e w' => e = .returned (.tuple #[]) ∧
      Row w' b 183 (zoneRow n (st L (9 * i + j) (mn (gt L (9 * i + j)) v))) ∧ At b w w' := by
  have hc := zone_at hw i j hL hi hj
  have hf : w.frozen? ⟨b, 1 + i * 9 + j, none⟩ = false := hw.free _
  have HR := Lib.hid ((zone_put hw i j (mn (gt L (9 * i + j)) v)).drew)
  have HA := Lib.hid (((At.refl b w).set (1 + i * 9 + j) (.int .i32 (mn (gt L (9 * i + j)) v))).drew)
  clear hw hL
  have HM := Lib.hid (ite_mn (gt L (9 * i + j)) v)
  generalize gt L (9 * i + j) = x at *
  generalize mn x v = m at *
  have hm := HM.out
  clear HM
  subst hm
  go_enter Try.func122, Try.ntmps122
  go_wp2
  go_region
  go_end0
  exact ⟨rfl, HR.out, HA.out⟩

/-- What forget makes of the cells. -/
def forgetC (x i : Nat) (L : List Int) : List Int := if i = x then L else st (st L (9 * x + i) INF) (9 * i + x) (gt (st L (9 * x + i) INF) (9 * i))
theorem forgetC_length (x i : Nat) (L : List Int) : (forgetC x i L).length = L.length := by unfold forgetC; split <;> simp [st_length]

set_option maxRecDepth 100000 in
set_option maxHeartbeats 1000000 in
theorem forget_any (b n : Nat) (L : List Int) (x : Nat) (w : World) (hL : L.length = 81) (hn : n ≤ 8) (hx : x < 9) (hw : Row w b 183 (zoneRow n L)) :
    Calls Try.prog 121 #[.pointer (some ⟨b, 0, none⟩), .int .i64 x] w fun e w' => e = .returned (.tuple #[]) ∧
      Row w' b 183 (zoneRow n (lp (forgetC x) (n + 1) L)) ∧ At b w w' := by
  have hc := zone_dim hw
  go_enter Try.func121, Try.ntmps121
  go_wp2
  clear hc
  go_loopw [11] (fun c wr => ∃ i : Nat, i ≤ n + 1 ∧ c = .int .i64 i ∧ Row wr b 183 (zoneRow n (lp (forgetC x) i L)) ∧ At b w wr) (fun c _ => n + 1 - (intOf c).toNat)
  case atStart => exact ⟨0, by omega, rfl, hw, At.refl b w⟩
  case round =>
    obtain ⟨i, hi, rfl, hr, hb⟩ := hrel
    clear hw
    by_cases hlt : i < n + 1
    · have hM : (lp (forgetC x) i L).length = 81 := by rw [lp_length _ (fun i L => forgetC_length x i L), hL]
      have HS := Lib.hid (show lp (forgetC x) (i + 1) L = forgetC x i (lp (forgetC x) i L) from rfl)
      have hi9 : i < 9 := by omega
      generalize lp (forgetC x) i L = M at *
      by_cases hix : i = x
      · have t1 : ((i : Int) != (x : Int)) = false := by simp; omega
        have HR := Lib.hid hr
        have HB := Lib.hid hb
        have HX := Lib.hid hix
        clear hr hb hix
        go_wp2
        refine ⟨⟨i + 1, by omega, by go_num, ?_, HB.out⟩, by simp [intOf]; omega⟩
        rw [HS.out]; unfold forgetC; rw [if_pos HX.out]; exact HR.out
      · have t1 : ((i : Int) != (x : Int)) = true := by simp; omega
        have hf0 := hr.free (1 + x * 9 + i)
        have hc0 := zone_at hr x i hM hx hi9
        have hs1 := zone_put hr x i INF
        have hb1 : At b w (wr.setCell ⟨b, 1 + x * 9 + i, none⟩ (.int .i32 INF)) := hb.set _ _
        have HX := Lib.hid hix
        have HI := Lib.hid hi
        have HL := Lib.hid hlt
        unfold INF at hs1 hb1
        have h0 : (0 : Nat) < 9 := by omega
        clear hr hb hix
        go_wp2_with fail
        generalize wr.setCell ⟨b, 1 + x * 9 + i, none⟩ (.int .i32 2147483647) = w1 at *
        clear hf0 hc0
        have hM1 : (st M (9 * x + i) 2147483647).length = 81 := by rw [st_length, hM]
        have hc1 := zone_at hs1 i 0 hM1 hi9 h0
        have hc2 := zone_at hs1 i x hM1 hi9 hx
        have hf2 := hs1.free (1 + i * 9 + x)
        have HR := Lib.hid ((zone_put hs1 i x (gt (st M (9 * x + i) 2147483647) (9 * i + 0))).drew)
        have HB := Lib.hid ((hb1.set (1 + i * 9 + x) (.int .i32 (gt (st M (9 * x + i) 2147483647) (9 * i + 0)))).drew)
        clear hs1 hb1
        simp only [Nat.add_zero] at hc1 HR HB
        generalize gt (st M (9 * x + i) 2147483647) (9 * i + x) = u at *
        generalize hv : gt (st M (9 * x + i) 2147483647) (9 * i) = v at *
        have HV := Lib.hid hv
        clear hv
        go_region
        go_wp2
        refine ⟨⟨i + 1, HL.out, by go_num, ?_, HB.out⟩, by have := HL.out; simp [intOf]; omega⟩
        rw [HS.out]; unfold forgetC INF; rw [if_neg HX.out, HV.out]; exact HR.out
    · have : i = n + 1 := by omega
      subst this
      have HR := Lib.hid hr
      have HB := Lib.hid hb
      clear hr hb
      go_wp2
      go_end0
      exact ⟨rfl, HR.out, HB.out⟩
end Go.Proofs.Ytapfihlgemejiaa
