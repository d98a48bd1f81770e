/- rat.size: over. -/
import Derived.Test.YtapfihlgemejiaaO0
import Derived.Test.YtapfihlgemejiaaN2
namespace Go.Proofs.Ytapfihlgemejiaa
open Go.RowKit

theorem or_low1 (a b : Nat) (hb : b ≤ 1) : (2 * a) ||| b = 2 * a + b := by
  have := Nat.two_pow_add_eq_or_of_lt (i := 1) (b := b) (by omega) a
  simpa using this.symm
theorem or_words (x y : Nat) (hx : x < 18446744073709551616) (hy : y < 18446744073709551616) (a b : Int) (ha : a = x) (hb : b = y) : bits .or .u64 a b = ((x ||| y : Nat) : Int) := by
  subst ha hb; exact bits_or_u64_nat x y hx hy
theorem and_one (x : Nat) (hx : x < 18446744073709551616) (a : Int) (ha : a = x) : bits .and .u64 a 1 = ((x % 2 : Nat) : Int) := by
  subst ha
  have := bits_and_u64_nat x 1 hx (by omega)
  rw [show x &&& 1 = x % 2 from Nat.and_one_is_mod x] at this
  exact this
theorem shl_hi (rh rl b : Nat) (h1 : rh < 9223372036854775808) (h2 : rl < 18446744073709551616) (hb : b ≤ 1) :
    bits .or .u64 (IntKind.u64.wrap ((rh : Int) * 2)) ((rl : Int) / 9223372036854775808) = (((2 * two rh rl + b) / 18446744073709551616 : Nat) : Int) := by
  rw [or_words (2 * rh) (rl / 9223372036854775808) (by omega) (by omega) _ _ (by rw [IntKind.wrap_u64]; omega) (by omega), or_low1 _ _ (by omega)]
  unfold two; omega
theorem shl_lo (rh rl b : Nat) (_h2 : rl < 18446744073709551616) (hb : b ≤ 1) :
    bits .or .u64 (IntKind.u64.wrap ((rl : Int) * 2)) (b : Int) = (((2 * two rh rl + b) % 18446744073709551616 : Nat) : Int) := by
  rw [or_words (2 * (rl % 9223372036854775808)) b (by omega) (by omega) _ _ (by rw [IntKind.wrap_u64]; omega) rfl, or_low1 _ _ hb]
  unfold two; omega
theorem pow_cast (k : Nat) : ((2 ^ k : Nat) : Int) = (2 : Int) ^ k := by simp
theorem bit_lo (sh sl k : Nat) (h : sl < 18446744073709551616) (hk : k < 64) : bits .and .u64 ((sl : Int) / 2 ^ k) 1 = ((bitAt (two sh sl) k : Nat) : Int) := by
  rw [and_one (sl / 2 ^ k) (Nat.lt_of_le_of_lt (Nat.div_le_self _ _) h) _ (by rw [Int.natCast_ediv, pow_cast])]
  unfold two; rw [bit_low _ _ _ hk]
theorem bit_hi (sh sl k : Nat) (h : sh < 18446744073709551616) (h' : sl < 18446744073709551616) (hk : 64 ≤ k) : bits .and .u64 ((sh : Int) / 2 ^ (k - 64)) 1 = ((bitAt (two sh sl) k : Nat) : Int) := by
  rw [and_one (sh / 2 ^ (k - 64)) (Nat.lt_of_le_of_lt (Nat.div_le_self _ _) h) _ (by rw [Int.natCast_ediv, pow_cast])]
  have := bit_high sh sl (k - 64) h'
  rw [show k - 64 + 64 = k by omega] at this
  unfold two; rw [this]
theorem put_lo (Q k : Nat) (hk : k < 64) (hd : 2 ^ (k + 1) ∣ Q) :
    bits .or .u64 ((Q % 18446744073709551616 : Nat) : Int) (2 ^ k) = (((Q + 2 ^ k) % 18446744073709551616 : Nat) : Int) := by
  have hp : 2 ^ k < 18446744073709551616 := Nat.pow_lt_pow_right (n := 64) (by omega) hk
  rw [or_words _ (2 ^ k) (Nat.mod_lt _ (by omega)) hp _ _ rfl (pow_cast k).symm, (put_low Q k hk hd).2]
theorem put_hi (Q k : Nat) (hQ : Q < 340282366920938463463374607431768211456) (h1 : 64 ≤ k) (hk : k < 128) (hd : 2 ^ (k + 1) ∣ Q) :
    bits .or .u64 ((Q / 18446744073709551616 : Nat) : Int) (2 ^ (k - 64)) = (((Q + 2 ^ k) / 18446744073709551616 : Nat) : Int) := by
  obtain ⟨m, rfl⟩ : ∃ m, k = m + 64 := ⟨k - 64, by omega⟩
  have hp : 2 ^ m < 18446744073709551616 := Nat.pow_lt_pow_right (n := 64) (by omega) (by omega)
  rw [show m + 64 - 64 = m by omega, or_words _ (2 ^ m) (by omega) hp _ _ rfl (pow_cast m).symm, (put_high Q m hd).1]
def words (h l : Nat) : List Value := [.int .u64 (h : Int), .int .u64 (l : Int)]
/-- A number of two words in a block. -/
def SizeAt (w : World) (g : Nat) (n : Nat) : Prop := n < 340282366920938463463374607431768211456 ∧ Row w g 159 (words (n / 18446744073709551616) (n % 18446744073709551616))
theorem compare_lt (ah al bh bl : Nat) (h2 : al < 18446744073709551616) (h4 : bl < 18446744073709551616) (w : World) (h : two ah al < two bh bl) :
    Calls Try.prog 162 #[.agg #[.int .u64 ah, .int .u64 al], .agg #[.int .u64 bh, .int .u64 bl]] w fun e w' =>
      e = .returned (.int .i64 (-1)) ∧ New w w' := by
  have := compare_any ah al bh bl h2 h4 w
  rwa [cmpN_lt h] at this
theorem compare_ge (ah al bh bl : Nat) (h2 : al < 18446744073709551616) (h4 : bl < 18446744073709551616) (w : World) (h : two bh bl ≤ two ah al) :
    Calls Try.prog 162 #[.agg #[.int .u64 ah, .int .u64 al], .agg #[.int .u64 bh, .int .u64 bl]] w fun e w' =>
      ∃ c : Int, 0 ≤ c ∧ e = .returned (.int .i64 c) ∧ New w w' :=
  (compare_any ah al bh bl h2 h4 w).mono fun e w' ⟨he, hn⟩ => ⟨_, by unfold cmpN; (repeat' split) <;> omega, he, hn⟩
theorem Row.far3 {w : World} {g : Nat} {t : TypeId} {cs : List Value} (h : Row w g t cs) (b : Nat) (hne : g ≠ b) (i j k : Nat) (u v x : Value) :
    Row (((w.setCell ⟨b, i, none⟩ u).setCell ⟨b, j, none⟩ v).setCell ⟨b, k, none⟩ x) g t cs :=
  ((h.far (p := ⟨b, i, none⟩) hne u).far (p := ⟨b, j, none⟩) hne v).far (p := ⟨b, k, none⟩) hne x
theorem Row.far2 {w : World} {g : Nat} {t : TypeId} {cs : List Value} (h : Row w g t cs) (b : Nat) (hne : g ≠ b) (i j : Nat) (u v : Value) :
    Row ((w.setCell ⟨b, i, none⟩ u).setCell ⟨b, j, none⟩ v) g t cs :=
  (h.far (p := ⟨b, i, none⟩) hne u).far (p := ⟨b, j, none⟩) hne v
theorem new_set3 {a w : World} (h : New a w) (b : Nat) (hb : a.heap.size ≤ b) (i j k : Nat) (u v x : Value) :
    New a (((w.setCell ⟨b, i, none⟩ u).setCell ⟨b, j, none⟩ v).setCell ⟨b, k, none⟩ x) :=
  Fr.set (p := ⟨b, k, none⟩) (Fr.set (p := ⟨b, j, none⟩) (Fr.set (p := ⟨b, i, none⟩) h (.inr hb) u) (.inr hb) v) (.inr hb) x
theorem new_set {a w : World} (h : New a w) (b : Nat) (hb : a.heap.size ≤ b) (i : Nat) (u : Value) : New a (w.setCell ⟨b, i, none⟩ u) :=
  Fr.set (p := ⟨b, i, none⟩) h (.inr hb) u
theorem two_div {h l n : Nat} (hl : l < 18446744073709551616) (h' : two h l = n) : n / 18446744073709551616 = h ∧ n % 18446744073709551616 = l := by
  subst h'; unfold two; omega
theorem SizeAt.of {w : World} {g h l n : Nat} (hr : Row w g 159 (words h l)) (hl : l < 18446744073709551616) (hh : h < 18446744073709551616) (h' : two h l = n) : SizeAt w g n := by
  obtain ⟨e1, e2⟩ := two_div hl h'
  refine ⟨h' ▸ two_lt hh hl, ?_⟩
  rw [e1, e2]; exact hr
theorem SizeAt.row {w : World} {g n : Nat} (h : SizeAt w g n) : ∃ a b : Nat, a < 18446744073709551616 ∧ b < 18446744073709551616 ∧ two a b = n ∧ Row w g 159 (words a b) :=
  ⟨_, _, by have := h.1; omega, by omega, two_parts _, h.2⟩
theorem less_ex (ah al bh bl : Nat) (h1 : ah < 18446744073709551616) (h2 : al < 18446744073709551616) (h3 : bh < 18446744073709551616) (h4 : bl < 18446744073709551616)
    (hs : two bh bl ≤ two ah al) (w : World) :
    Calls Try.prog 163 #[.agg #[.int .u64 ah, .int .u64 al], .agg #[.int .u64 bh, .int .u64 bl]] w fun e w' => ∃ h l : Nat, h < 18446744073709551616 ∧ l < 18446744073709551616 ∧ two h l = two ah al - two bh bl ∧
      e = .returned (.agg #[.int .u64 h, .int .u64 l]) ∧ New w w' :=
  (less_any ah al bh bl h1 h2 h3 h4 hs w).mono fun _ _ ⟨he, hn⟩ => ⟨_, _, by have := two_lt h1 h2; omega, by omega, two_parts _, he, hn⟩
theorem wrap_pow (k : Nat) (hk : k < 64) : IntKind.u64.wrap (2 ^ k) = 2 ^ k := by
  have hp : 2 ^ k < 18446744073709551616 := Nat.pow_lt_pow_right (n := 64) (by omega) hk
  rw [← pow_cast, IntKind.wrap_u64]; generalize 2 ^ k = x at *; omega
theorem q_lo {Q k qh ql : Nat} (hk : k < 64) (hd : 2 ^ (k + 1) ∣ Q) (hql : ql < 18446744073709551616) (h : two qh ql = Q) :
    ∃ yl : Nat, yl < 18446744073709551616 ∧ two qh yl = Q + 2 ^ k ∧ bits .or .u64 (ql : Int) (IntKind.u64.wrap (2 ^ k)) = (yl : Int) := by
  obtain ⟨e1, e2⟩ := two_div hql h
  refine ⟨(Q + 2 ^ k) % 18446744073709551616, by omega, ?_, by rw [← e2, wrap_pow k hk]; exact put_lo Q k hk hd⟩
  rw [← e1, ← (put_low Q k hk hd).1]; exact two_parts _
theorem q_hi {Q k qh ql : Nat} (hQ : Q + 2 ^ k < 340282366920938463463374607431768211456) (h1 : 64 ≤ k) (hk : k < 128) (hd : 2 ^ (k + 1) ∣ Q) (hql : ql < 18446744073709551616) (h : two qh ql = Q) :
    ∃ yh : Nat, yh < 18446744073709551616 ∧ two yh ql = Q + 2 ^ k ∧ bits .or .u64 (qh : Int) (IntKind.u64.wrap (2 ^ (k - 64))) = (yh : Int) := by
  obtain ⟨e1, e2⟩ := two_div hql h
  refine ⟨(Q + 2 ^ k) / 18446744073709551616, by omega, ?_, by rw [← e1, wrap_pow (k - 64) (by omega)]; exact put_hi Q k (by omega) h1 hk hd⟩
  obtain ⟨m, rfl⟩ : ∃ m, k = m + 64 := ⟨k - 64, by omega⟩
  rw [← e2, ← (put_high Q m hd).2]; exact two_parts _
/-- A round's words: R' = 2 R + bit. -/
theorem round_words {S T k : Nat} {rh rl : Nat} (hT : 0 < T) (hT2 : T ≤ 170141183460469231731687303715884105728) (hrl : rl < 18446744073709551616) (hr : two rh rl = remAt S T (k + 1)) :
    ∃ xh xl : Nat, xh < 18446744073709551616 ∧ xl < 18446744073709551616 ∧ two xh xl = 2 * remAt S T (k + 1) + bitAt S k ∧
      bits .or .u64 (IntKind.u64.wrap ((rh : Int) * 2)) ((rl : Int) / 9223372036854775808) = (xh : Int) ∧
      bits .or .u64 (IntKind.u64.wrap ((rl : Int) * 2)) ((bitAt S k : Nat) : Int) = (xl : Int) := by
  have h1 := rem_lt S T (k + 1) hT
  have h2 := bit_le S k
  rw [← hr] at h1 ⊢
  have h3 : rh < 9223372036854775808 := by unfold two at h1; omega
  refine ⟨(2 * two rh rl + bitAt S k) / 18446744073709551616, (2 * two rh rl + bitAt S k) % 18446744073709551616, by omega, by omega, two_parts _, shl_hi _ _ _ h3 hrl h2, shl_lo _ _ _ hrl h2⟩

/-- A round of the long division behind its bit: the block of q and the block of r. -/
def OverRel (wr : World) (b sh sl th tl : Nat) (w : World) (m : Nat) : Prop :=
  Row wr b 159 (words sh sl) ∧ Row wr (b + 1) 159 (words th tl) ∧ Row wr (b + 1 + 1) 159 (words 0 0) ∧ Row wr (b + 1 + 1 + 1) 159 (words 0 0) ∧
  SizeAt wr (b + 1 + 1 + 1 + 1) (quoAt (two sh sl) (two th tl) m) ∧ SizeAt wr (b + 1 + 1 + 1 + 1 + 1) (remAt (two sh sl) (two th tl) m) ∧ New w wr

set_option maxRecDepth 100000 in
set_option maxHeartbeats 4000000 in
theorem over_any (sh sl th tl : Nat) (h1 : sh < 18446744073709551616) (h2 : sl < 18446744073709551616) (h3 : th < 18446744073709551616) (h4 : tl < 18446744073709551616)
    (hT : 0 < two th tl) (hT2 : two th tl ≤ 170141183460469231731687303715884105728) (w : World) :
    Calls Try.prog 165 #[.agg #[.int .u64 sh, .int .u64 sl], .agg #[.int .u64 th, .int .u64 tl]] w fun e w' =>
      ∃ qh ql rh rl : Nat, qh < 18446744073709551616 ∧ ql < 18446744073709551616 ∧ rh < 18446744073709551616 ∧ rl < 18446744073709551616 ∧
        two qh ql = two sh sl / two th tl ∧ two rh rl = two sh sl % two th tl ∧
      e = .returned (.tuple #[.agg #[.int .u64 qh, .int .u64 ql], .agg #[.int .u64 rh, .int .u64 rl]]) ∧ New w w' := by
  go_enter Try.func165, Try.ntmps165
  go_wp2_with fail
  go_loopw [8] (fun ci wr => ∃ m : Nat, m ≤ 128 ∧ ci = .int .i64 ((m : Int) - 1) ∧ OverRel wr w.heap.size sh sl th tl w m)
    (fun cn _ => (intOf cn + 1).toNat)
  case atStart =>
    obtain ⟨e1, e2⟩ := quo_start (two sh sl) (two th tl) 128 (two_lt h1 h2)
    refine ⟨128, by omega, rfl, ?_, ?_, ?_, ?_, ?_, ?_, ?_⟩
    · exact (((((Row.new_at w 159 (words sh sl) rfl).alloc _).alloc _).alloc _).alloc _).alloc _
    · exact ((((Row.new_at _ 159 (words th tl) (by simp)).alloc _).alloc _).alloc _).alloc _
    · exact (((Row.new_at _ 159 (words 0 0) (by simp)).alloc _).alloc _).alloc _
    · exact ((Row.new_at _ 159 (words 0 0) (by simp)).alloc _).alloc _
    · rw [e1]; exact ⟨by decide, (Row.new_at _ 159 (words 0 0) (by simp)).alloc _⟩
    · rw [e2]; exact ⟨by decide, Row.new_at _ 159 (words 0 0) (by simp)⟩
    · exact ((((((New.refl w).alloc _).alloc _).alloc _).alloc _).alloc _).alloc _
  case round =>
    obtain ⟨m, hm, rfl, hs, ht, hy, hz, hq, ⟨hrb, hrr⟩, hn⟩ := hrel
    rcases Nat.eq_zero_or_pos m with h0 | h0
    · subst h0
      rw [(quo_end _ _).1] at hq
      rw [(quo_end _ _).2] at hrb hrr
      obtain ⟨qh, ql, hqh, hql, hqv, hqr⟩ := SizeAt.row hq
      obtain ⟨rh, rl, hrh, hrl, hrv, hrr⟩ := SizeAt.row (n := two sh sl % two th tl) ⟨hrb, hrr⟩
      rw [show ((0 : Nat) : Int) - 1 = -1 from rfl]
      have q0 : wr.cell? ⟨w.heap.size + 1 + 1 + 1 + 1, 0, none⟩ = some (.int .u64 (qh : Int)) := hqr.cell 0
      have q1 : wr.cell? ⟨w.heap.size + 1 + 1 + 1 + 1, 1, none⟩ = some (.int .u64 (ql : Int)) := hqr.cell 1
      have r0 : wr.cell? ⟨w.heap.size + 1 + 1 + 1 + 1 + 1, 0, none⟩ = some (.int .u64 (rh : Int)) := hrr.cell 0
      have r1 : wr.cell? ⟨w.heap.size + 1 + 1 + 1 + 1 + 1, 1, none⟩ = some (.int .u64 (rl : Int)) := hrr.cell 1
      have y0 : wr.cell? ⟨w.heap.size + 1 + 1, 0, none⟩ = some (.int .u64 0) := hy.cell 0
      have y1 : wr.cell? ⟨w.heap.size + 1 + 1, 1, none⟩ = some (.int .u64 0) := hy.cell 1
      have z0 : wr.cell? ⟨w.heap.size + 1 + 1 + 1, 0, none⟩ = some (.int .u64 0) := hz.cell 0
      have z1 : wr.cell? ⟨w.heap.size + 1 + 1 + 1, 1, none⟩ = some (.int .u64 0) := hz.cell 1
      have yf0 := hy.free 0
      have yf1 := hy.free 1
      have zf0 := hz.free 0
      have zf1 := hz.free 1
      have l5 := hrr.lt
      have HV := Lib.hid (And.intro hqv hrv)
      have HB := Lib.hid (show qh < 18446744073709551616 ∧ ql < 18446744073709551616 ∧ rh < 18446744073709551616 ∧ rl < 18446744073709551616 from ⟨hqh, hql, hrh, hrl⟩)
      clear hqv hrv hT2 hT h1 h2 h3 h4
      have HY := Lib.hid ((((hy.set 0 (.int .u64 (qh : Int))).set 1 (.int .u64 (ql : Int))).far2 (w.heap.size + 1 + 1 + 1) (by omega) 0 1 (.int .u64 (rh : Int)) (.int .u64 (rl : Int))).drew)
      have HZ := Lib.hid ((((hz.far2 (w.heap.size + 1 + 1) (by omega) 0 1 (.int .u64 (qh : Int)) (.int .u64 (ql : Int))).set 0 (.int .u64 (rh : Int))).set 1 (.int .u64 (rl : Int))).drew)
      have HW := Lib.hid ((new_set (new_set (new_set (new_set hn (w.heap.size + 1 + 1) (by omega) 0 (.int .u64 (qh : Int))) (w.heap.size + 1 + 1) (by omega) 1 (.int .u64 (ql : Int))) (w.heap.size + 1 + 1 + 1) (by omega) 0 (.int .u64 (rh : Int))) (w.heap.size + 1 + 1 + 1) (by omega) 1 (.int .u64 (rl : Int))).drew)
      clear hn hs ht hy hz hq hqr hrr hrb hqh hql hrh hrl
      go_wp2_with fail
      go_region
      clear q0 q1 r0 r1 y0 y1 z0 z1 yf0 yf1 zf0 zf1 l5
      generalize ((((wr.setCell ⟨w.heap.size + 1 + 1, 0, none⟩ (.int .u64 (qh : Int))).setCell ⟨w.heap.size + 1 + 1, 1, none⟩ (.int .u64 (ql : Int))).setCell ⟨w.heap.size + 1 + 1 + 1, 0, none⟩ (.int .u64 (rh : Int))).setCell ⟨w.heap.size + 1 + 1 + 1, 1, none⟩ (.int .u64 (rl : Int))).drew = w8 at *
      have y0 : w8.cell? ⟨w.heap.size + 1 + 1, 0, none⟩ = some (.int .u64 (qh : Int)) := HY.out.cell 0
      have y1 : w8.cell? ⟨w.heap.size + 1 + 1, 1, none⟩ = some (.int .u64 (ql : Int)) := HY.out.cell 1
      have z0 : w8.cell? ⟨w.heap.size + 1 + 1 + 1, 0, none⟩ = some (.int .u64 (rh : Int)) := HZ.out.cell 0
      have z1 : w8.cell? ⟨w.heap.size + 1 + 1 + 1, 1, none⟩ = some (.int .u64 (rl : Int)) := HZ.out.cell 1
      go_wp2_with fail
      exact bodyPost_ret (v := .tuple #[.agg #[.int .u64 (qh : Int), .int .u64 (ql : Int)], .agg #[.int .u64 (rh : Int), .int .u64 (rl : Int)]]) (by simp [results, Try.results165, go_sem, y0, y1, z0, z1]) rfl
        ⟨qh, ql, rh, rl, HB.out.1, HB.out.2.1, HB.out.2.2.1, HB.out.2.2.2, HV.out.1, HV.out.2, rfl, HW.out⟩
    · obtain ⟨k, rfl⟩ : ∃ k, m = k + 1 := ⟨m - 1, by omega⟩
      rw [show ((k + 1 : Nat) : Int) - 1 = (k : Int) by omega]
      obtain ⟨rh, rl, hrl, hr, hrr⟩ : ∃ rh rl : Nat, rl < 18446744073709551616 ∧ two rh rl = remAt (two sh sl) (two th tl) (k + 1) ∧ Row wr (w.heap.size + 1 + 1 + 1 + 1 + 1) 159 (words rh rl) :=
        ⟨_, _, by omega, two_parts _, hrr⟩
      obtain ⟨xh, xl, hxh, hxl, hx, e1, e2⟩ := round_words hT hT2 hrl hr
      have c0 : wr.cell? ⟨w.heap.size, 0, none⟩ = some (.int .u64 (sh : Int)) := hs.cell 0
      have c1 : wr.cell? ⟨w.heap.size, 1, none⟩ = some (.int .u64 (sl : Int)) := hs.cell 1
      have r0 : wr.cell? ⟨w.heap.size + 1 + 1 + 1 + 1 + 1, 0, none⟩ = some (.int .u64 (rh : Int)) := hrr.cell 0
      have r1 : wr.cell? ⟨w.heap.size + 1 + 1 + 1 + 1 + 1, 1, none⟩ = some (.int .u64 (rl : Int)) := hrr.cell 1
      have rf0 := hrr.free 0
      have rf1 := hrr.free 1
      have HS := Lib.hid hs
      have HT := Lib.hid ht
      have HY := Lib.hid hy
      have HZ := Lib.hid hz
      have HQ := Lib.hid hq
      have HR := Lib.hid hrr
      have HX := Lib.hid hx
      have HN := Lib.hid hn
      have E2 := Lib.hid e2
      have l5 := hrr.lt
      clear hs ht hy hz hq hr hrr hn hx e2 hrb
      have R3 : Row (((wr.setCell ⟨w.heap.size + 1 + 1 + 1 + 1 + 1, 0, none⟩ (.int .u64 (xh : Int))).setCell ⟨w.heap.size + 1 + 1 + 1 + 1 + 1, 1, none⟩ (.int .u64 (IntKind.u64.wrap ((rl : Int) * 2)))).setCell ⟨w.heap.size + 1 + 1 + 1 + 1 + 1, 1, none⟩ (.int .u64 (xl : Int))) (w.heap.size + 1 + 1 + 1 + 1 + 1) 159 (words xh xl) := ((HR.out.set 0 _).set 1 _).set 1 _
      have S3 := HS.out.far3 (w.heap.size + 1 + 1 + 1 + 1 + 1) (by omega) 0 1 1 (.int .u64 (xh : Int)) (.int .u64 (IntKind.u64.wrap ((rl : Int) * 2))) (.int .u64 (xl : Int))
      have T3 := HT.out.far3 (w.heap.size + 1 + 1 + 1 + 1 + 1) (by omega) 0 1 1 (.int .u64 (xh : Int)) (.int .u64 (IntKind.u64.wrap ((rl : Int) * 2))) (.int .u64 (xl : Int))
      have Y3 := HY.out.far3 (w.heap.size + 1 + 1 + 1 + 1 + 1) (by omega) 0 1 1 (.int .u64 (xh : Int)) (.int .u64 (IntKind.u64.wrap ((rl : Int) * 2))) (.int .u64 (xl : Int))
      have Z3 := HZ.out.far3 (w.heap.size + 1 + 1 + 1 + 1 + 1) (by omega) 0 1 1 (.int .u64 (xh : Int)) (.int .u64 (IntKind.u64.wrap ((rl : Int) * 2))) (.int .u64 (xl : Int))
      have Q3 := HQ.out.2.far3 (w.heap.size + 1 + 1 + 1 + 1 + 1) (by omega) 0 1 1 (.int .u64 (xh : Int)) (.int .u64 (IntKind.u64.wrap ((rl : Int) * 2))) (.int .u64 (xl : Int))
      have N3 : New w (((wr.setCell ⟨w.heap.size + 1 + 1 + 1 + 1 + 1, 0, none⟩ (.int .u64 (xh : Int))).setCell ⟨w.heap.size + 1 + 1 + 1 + 1 + 1, 1, none⟩ (.int .u64 (IntKind.u64.wrap ((rl : Int) * 2)))).setCell ⟨w.heap.size + 1 + 1 + 1 + 1 + 1, 1, none⟩ (.int .u64 (xl : Int))) := new_set3 HN.out (w.heap.size + 1 + 1 + 1 + 1 + 1) (by omega) 0 1 1 _ _ _
      have hQb := HQ.out.1
      have RR3 := Lib.hid R3
      have SS3 := Lib.hid S3
      have TT3 := Lib.hid T3
      have YY3 := Lib.hid Y3
      have ZZ3 := Lib.hid Z3
      have QQ3 := Lib.hid Q3
      have NN3 := Lib.hid N3
      clear R3 S3 T3 Y3 Z3 Q3 N3
      by_cases h63 : (k : Int) ≤ 63
      · have h63' : ¬ 63 < (k : Int) := by omega
        have e3 := bit_lo sh sl k h2 (by omega)
        have e2 := E2.out
        go_upto_region 10 with (fail)
        clear e2 e3
        generalize (((wr.setCell ⟨w.heap.size + 1 + 1 + 1 + 1 + 1, 0, none⟩ (.int .u64 (xh : Int))).setCell ⟨w.heap.size + 1 + 1 + 1 + 1 + 1, 1, none⟩ (.int .u64 (IntKind.u64.wrap ((rl : Int) * 2)))).setCell ⟨w.heap.size + 1 + 1 + 1 + 1 + 1, 1, none⟩ (.int .u64 (xl : Int))) = w3 at *
        clear c0 c1 r0 r1 rf0 rf1 l5 e1
        have cT0 : w3.cell? ⟨w.heap.size + 1, 0, none⟩ = some (.int .u64 (th : Int)) := TT3.out.cell 0
        have cT1 : w3.cell? ⟨w.heap.size + 1, 1, none⟩ = some (.int .u64 (tl : Int)) := TT3.out.cell 1
        have cR0 : w3.cell? ⟨w.heap.size + 1 + 1 + 1 + 1 + 1, 0, none⟩ = some (.int .u64 (xh : Int)) := RR3.out.cell 0
        have cR1 : w3.cell? ⟨w.heap.size + 1 + 1 + 1 + 1 + 1, 1, none⟩ = some (.int .u64 (xl : Int)) := RR3.out.cell 1
        have l5 := RR3.out.lt
        by_cases hc : two th tl ≤ two xh xl
        · go_wp2_with fail
          refine (compare_ge xh xl th tl hxl h4 _ hc).mono ?_
          rintro e w4 ⟨c, hc0, rfl, hn4⟩
          have R4 := Lib.hid (hn4.row RR3.out)
          have T4 := Lib.hid (hn4.row TT3.out)
          have N4 := Lib.hid (NN3.out.trans hn4)
          clear cT0 cT1 cR0 cR1 l5
          have hn4 := hn4
          have cT0 : w4.cell? ⟨w.heap.size + 1, 0, none⟩ = some (.int .u64 (th : Int)) := T4.out.cell 0
          have cT1 : w4.cell? ⟨w.heap.size + 1, 1, none⟩ = some (.int .u64 (tl : Int)) := T4.out.cell 1
          have cR0 : w4.cell? ⟨w.heap.size + 1 + 1 + 1 + 1 + 1, 0, none⟩ = some (.int .u64 (xh : Int)) := R4.out.cell 0
          have cR1 : w4.cell? ⟨w.heap.size + 1 + 1 + 1 + 1 + 1, 1, none⟩ = some (.int .u64 (xl : Int)) := R4.out.cell 1
          have rf0 : w4.frozen? ⟨w.heap.size + 1 + 1 + 1 + 1 + 1, 0, none⟩ = false := R4.out.free 0
          have rf1 : w4.frozen? ⟨w.heap.size + 1 + 1 + 1 + 1 + 1, 1, none⟩ = false := R4.out.free 1
          have l5 := R4.out.lt
          go_wp2_with fail
          refine (less_ex xh xl th tl hxh hxl h3 h4 hc _).mono ?_
          rintro e w5 ⟨dh, dl, hdh, hdl, hd, rfl, hn5⟩
          have hrem : two dh dl = remAt (two sh sl) (two th tl) k := by rw [rem_step _ _ _ hT, ← HX.out, if_pos hc]; exact hd
          have hquo : quoAt (two sh sl) (two th tl) k = quoAt (two sh sl) (two th tl) (k + 1) + 2 ^ k := by rw [quo_step _ _ _ hT, ← HX.out, if_pos hc]
          obtain ⟨qh, ql, hqh, hql, hq, hqr⟩ := SizeAt.row (w := w3) ⟨hQb, QQ3.out⟩
          obtain ⟨yl, hyl, hy, ey⟩ := q_lo (k := k) (by omega) (quo_dvd _ _ _) hql hq
          have R5 := Lib.hid (hn5.row R4.out)
          have Q5 := Lib.hid (hn5.row (hn4.row hqr))
          have S5 := Lib.hid (hn5.row (hn4.row SS3.out))
          have T5 := Lib.hid (hn5.row T4.out)
          have Y5 := Lib.hid (hn5.row (hn4.row YY3.out))
          have Z5 := Lib.hid (hn5.row (hn4.row ZZ3.out))
          have N5 := Lib.hid (N4.out.trans hn5)
          have HREM := Lib.hid hrem
          have HQUO := Lib.hid hquo
          have HYY := Lib.hid hy
          have EY := Lib.hid ey
          have HXL := Lib.hid (show dh < 18446744073709551616 ∧ dl < 18446744073709551616 from ⟨hdh, hdl⟩)
          clear hc ey
          clear hQb hT2 cT0 cT1 cR0 cR1 l5 hn4 hn5 rf0 rf1 hrem hquo hq hqr hd hy
          have cR0 : w5.cell? ⟨w.heap.size + 1 + 1 + 1 + 1 + 1, 0, none⟩ = some (.int .u64 (xh : Int)) := R5.out.cell 0
          have cR1 : w5.cell? ⟨w.heap.size + 1 + 1 + 1 + 1 + 1, 1, none⟩ = some (.int .u64 (xl : Int)) := R5.out.cell 1
          have cQ0 : w5.cell? ⟨w.heap.size + 1 + 1 + 1 + 1, 0, none⟩ = some (.int .u64 (qh : Int)) := Q5.out.cell 0
          have cQ1 : w5.cell? ⟨w.heap.size + 1 + 1 + 1 + 1, 1, none⟩ = some (.int .u64 (ql : Int)) := Q5.out.cell 1
          have rf0 : w5.frozen? ⟨w.heap.size + 1 + 1 + 1 + 1 + 1, 0, none⟩ = false := R5.out.free 0
          have rf1 : w5.frozen? ⟨w.heap.size + 1 + 1 + 1 + 1 + 1, 1, none⟩ = false := R5.out.free 1
          have qf0 : w5.frozen? ⟨w.heap.size + 1 + 1 + 1 + 1, 0, none⟩ = false := Q5.out.free 0
          have qf1 : w5.frozen? ⟨w.heap.size + 1 + 1 + 1 + 1, 1, none⟩ = false := Q5.out.free 1
          have l5 := R5.out.lt
          go_upto_region 14 with (fail)
          clear cR0 cR1 cQ0 cQ1 rf0 rf1 qf0 qf1 l5
          have R6 : Row ((w5.setCell ⟨w.heap.size + 1 + 1 + 1 + 1 + 1, 0, none⟩ (.int .u64 (dh : Int))).setCell ⟨w.heap.size + 1 + 1 + 1 + 1 + 1, 1, none⟩ (.int .u64 (dl : Int))) (w.heap.size + 1 + 1 + 1 + 1 + 1) 159 (words dh dl) := (R5.out.set 0 _).set 1 _
          have Q6 := Lib.hid (Q5.out.far2 (w.heap.size + 1 + 1 + 1 + 1 + 1) (by omega) 0 1 (.int .u64 (dh : Int)) (.int .u64 (dl : Int)))
          have S6 := Lib.hid (S5.out.far2 (w.heap.size + 1 + 1 + 1 + 1 + 1) (by omega) 0 1 (.int .u64 (dh : Int)) (.int .u64 (dl : Int)))
          have T6 := Lib.hid (T5.out.far2 (w.heap.size + 1 + 1 + 1 + 1 + 1) (by omega) 0 1 (.int .u64 (dh : Int)) (.int .u64 (dl : Int)))
          have Y6 := Lib.hid (Y5.out.far2 (w.heap.size + 1 + 1 + 1 + 1 + 1) (by omega) 0 1 (.int .u64 (dh : Int)) (.int .u64 (dl : Int)))
          have Z6 := Lib.hid (Z5.out.far2 (w.heap.size + 1 + 1 + 1 + 1 + 1) (by omega) 0 1 (.int .u64 (dh : Int)) (.int .u64 (dl : Int)))
          have N6 := Lib.hid (new_set (new_set N5.out (w.heap.size + 1 + 1 + 1 + 1 + 1) (by omega) 0 (.int .u64 (dh : Int))) (w.heap.size + 1 + 1 + 1 + 1 + 1) (by omega) 1 (.int .u64 (dl : Int)))
          have R6 := Lib.hid R6
          generalize ((w5.setCell ⟨w.heap.size + 1 + 1 + 1 + 1 + 1, 0, none⟩ (.int .u64 (dh : Int))).setCell ⟨w.heap.size + 1 + 1 + 1 + 1 + 1, 1, none⟩ (.int .u64 (dl : Int))) = w6 at *
          clear Q5 S5 T5 Y5 Z5 N5 R5
          have cQ0 : w6.cell? ⟨w.heap.size + 1 + 1 + 1 + 1, 0, none⟩ = some (.int .u64 (qh : Int)) := Q6.out.cell 0
          have cQ1 : w6.cell? ⟨w.heap.size + 1 + 1 + 1 + 1, 1, none⟩ = some (.int .u64 (ql : Int)) := Q6.out.cell 1
          have qf0 : w6.frozen? ⟨w.heap.size + 1 + 1 + 1 + 1, 0, none⟩ = false := Q6.out.free 0
          have qf1 : w6.frozen? ⟨w.heap.size + 1 + 1 + 1 + 1, 1, none⟩ = false := Q6.out.free 1
          have l5 := Q6.out.lt
          go_region
          rw [EY.out]
          have RQ := Lib.hid ((Q6.out.set 1 (.int .u64 (yl : Int))).drew)
          have RS := Lib.hid ((S6.out.far (p := ⟨w.heap.size + 1 + 1 + 1 + 1, 1, none⟩) (by show w.heap.size ≠ w.heap.size + 1 + 1 + 1 + 1; omega) (.int .u64 (yl : Int))).drew)
          have RT := Lib.hid ((T6.out.far (p := ⟨w.heap.size + 1 + 1 + 1 + 1, 1, none⟩) (by show w.heap.size + 1 ≠ w.heap.size + 1 + 1 + 1 + 1; omega) (.int .u64 (yl : Int))).drew)
          have RY := Lib.hid ((Y6.out.far (p := ⟨w.heap.size + 1 + 1 + 1 + 1, 1, none⟩) (by show w.heap.size + 1 + 1 ≠ w.heap.size + 1 + 1 + 1 + 1; omega) (.int .u64 (yl : Int))).drew)
          have RZ := Lib.hid ((Z6.out.far (p := ⟨w.heap.size + 1 + 1 + 1 + 1, 1, none⟩) (by show w.heap.size + 1 + 1 + 1 ≠ w.heap.size + 1 + 1 + 1 + 1; omega) (.int .u64 (yl : Int))).drew)
          have RR := Lib.hid ((R6.out.far (p := ⟨w.heap.size + 1 + 1 + 1 + 1, 1, none⟩) (by show w.heap.size + 1 + 1 + 1 + 1 + 1 ≠ w.heap.size + 1 + 1 + 1 + 1; omega) (.int .u64 (yl : Int))).drew)
          have RN := Lib.hid ((new_set N6.out (w.heap.size + 1 + 1 + 1 + 1) (by omega) 1 (.int .u64 (yl : Int))).drew)
          generalize (w6.setCell ⟨w.heap.size + 1 + 1 + 1 + 1, 1, none⟩ (.int .u64 (yl : Int))).drew = w7 at *
          clear cQ0 cQ1 qf0 qf1 l5 R6 S6 T6 Y6 Z6 N6 Q6 hrr hrl hxh hxl hdh hdl EY
          go_wp2_with fail
          exact ⟨⟨k, by omega, rfl, RS.out, RT.out, RY.out, RZ.out, by rw [HQUO.out]; exact SizeAt.of (RQ.out) hyl hqh HYY.out, by rw [← HREM.out]; exact ⟨by have := HXL.out; exact two_lt this.1 this.2, by rw [(two_div HXL.out.2 rfl).1, (two_div HXL.out.2 rfl).2]; exact RR.out⟩, RN.out⟩, by simp [intOf]⟩
        · have hlt : two xh xl < two th tl := by omega
          have hrem : two xh xl = remAt (two sh sl) (two th tl) k := by rw [rem_step _ _ _ hT, ← HX.out, if_neg hc]
          have hquo : quoAt (two sh sl) (two th tl) k = quoAt (two sh sl) (two th tl) (k + 1) := by rw [quo_step _ _ _ hT, ← HX.out, if_neg hc]; rfl
          have HREM := Lib.hid hrem
          have HQUO := Lib.hid hquo
          have HQB := Lib.hid hQb
          have HXL := Lib.hid (show xh < 18446744073709551616 ∧ xl < 18446744073709551616 from ⟨hxh, hxl⟩)
          have cmp := compare_lt xh xl th tl hxl h4 w3 hlt
          have CMP := Lib.hid cmp
          clear hrem hquo hQb hT2 hlt hc cmp
          go_wp2_with fail
          refine CMP.out.mono ?_
          rintro e w4 ⟨rfl, hn4⟩
          have RR := Lib.hid (hn4.row RR3.out)
          have RQ := Lib.hid (hn4.row QQ3.out)
          have RS := Lib.hid (hn4.row SS3.out)
          have RT := Lib.hid (hn4.row TT3.out)
          have RY := Lib.hid (hn4.row YY3.out)
          have RZ := Lib.hid (hn4.row ZZ3.out)
          have RN := Lib.hid (NN3.out.trans hn4)
          clear cT0 cT1 cR0 cR1 l5 hn4 CMP hrr hrl hxh hxl
          go_wp2_with fail
          exact ⟨⟨k, by omega, rfl, RS.out, RT.out, RY.out, RZ.out, by rw [HQUO.out]; exact ⟨HQB.out, RQ.out⟩, by rw [← HREM.out]; exact ⟨by have := HXL.out; exact two_lt this.1 this.2, by rw [(two_div HXL.out.2 rfl).1, (two_div HXL.out.2 rfl).2]; exact RR.out⟩, RN.out⟩, by simp [intOf]⟩
      · have h63' : 63 < (k : Int) := by omega
        have h64 : 0 ≤ (k : Int) - 64 := by omega
        have e3 := bit_hi sh sl k h1 h2 (by omega)
        have e2 := E2.out
        go_upto_region 10 with (fail)
        clear e2 e3
        generalize (((wr.setCell ⟨w.heap.size + 1 + 1 + 1 + 1 + 1, 0, none⟩ (.int .u64 (xh : Int))).setCell ⟨w.heap.size + 1 + 1 + 1 + 1 + 1, 1, none⟩ (.int .u64 (IntKind.u64.wrap ((rl : Int) * 2)))).setCell ⟨w.heap.size + 1 + 1 + 1 + 1 + 1, 1, none⟩ (.int .u64 (xl : Int))) = w3 at *
        clear c0 c1 r0 r1 rf0 rf1 l5 e1
        have cT0 : w3.cell? ⟨w.heap.size + 1, 0, none⟩ = some (.int .u64 (th : Int)) := TT3.out.cell 0
        have cT1 : w3.cell? ⟨w.heap.size + 1, 1, none⟩ = some (.int .u64 (tl : Int)) := TT3.out.cell 1
        have cR0 : w3.cell? ⟨w.heap.size + 1 + 1 + 1 + 1 + 1, 0, none⟩ = some (.int .u64 (xh : Int)) := RR3.out.cell 0
        have cR1 : w3.cell? ⟨w.heap.size + 1 + 1 + 1 + 1 + 1, 1, none⟩ = some (.int .u64 (xl : Int)) := RR3.out.cell 1
        have l5 := RR3.out.lt
        by_cases hc : two th tl ≤ two xh xl
        · go_wp2_with fail
          refine (compare_ge xh xl th tl hxl h4 _ hc).mono ?_
          rintro e w4 ⟨c, hc0, rfl, hn4⟩
          have R4 := Lib.hid (hn4.row RR3.out)
          have T4 := Lib.hid (hn4.row TT3.out)
          have N4 := Lib.hid (NN3.out.trans hn4)
          clear cT0 cT1 cR0 cR1 l5
          have hn4 := hn4
          have cT0 : w4.cell? ⟨w.heap.size + 1, 0, none⟩ = some (.int .u64 (th : Int)) := T4.out.cell 0
          have cT1 : w4.cell? ⟨w.heap.size + 1, 1, none⟩ = some (.int .u64 (tl : Int)) := T4.out.cell 1
          have cR0 : w4.cell? ⟨w.heap.size + 1 + 1 + 1 + 1 + 1, 0, none⟩ = some (.int .u64 (xh : Int)) := R4.out.cell 0
          have cR1 : w4.cell? ⟨w.heap.size + 1 + 1 + 1 + 1 + 1, 1, none⟩ = some (.int .u64 (xl : Int)) := R4.out.cell 1
          have rf0 : w4.frozen? ⟨w.heap.size + 1 + 1 + 1 + 1 + 1, 0, none⟩ = false := R4.out.free 0
          have rf1 : w4.frozen? ⟨w.heap.size + 1 + 1 + 1 + 1 + 1, 1, none⟩ = false := R4.out.free 1
          have l5 := R4.out.lt
          go_wp2_with fail
          refine (less_ex xh xl th tl hxh hxl h3 h4 hc _).mono ?_
          rintro e w5 ⟨dh, dl, hdh, hdl, hd, rfl, hn5⟩
          have hrem : two dh dl = remAt (two sh sl) (two th tl) k := by rw [rem_step _ _ _ hT, ← HX.out, if_pos hc]; exact hd
          have hquo : quoAt (two sh sl) (two th tl) k = quoAt (two sh sl) (two th tl) (k + 1) + 2 ^ k := by rw [quo_step _ _ _ hT, ← HX.out, if_pos hc]
          obtain ⟨qh, ql, hqh, hql, hq, hqr⟩ := SizeAt.row (w := w3) ⟨hQb, QQ3.out⟩
          obtain ⟨yh, hyh, hy, ey⟩ := q_hi (k := k) (by have h0 := quo_le (two sh sl) (two th tl) k; rw [hquo] at h0; have h9 := two_lt h1 h2; omega) (by omega) (by omega) (quo_dvd _ _ _) hql hq
          have R5 := Lib.hid (hn5.row R4.out)
          have Q5 := Lib.hid (hn5.row (hn4.row hqr))
          have S5 := Lib.hid (hn5.row (hn4.row SS3.out))
          have T5 := Lib.hid (hn5.row T4.out)
          have Y5 := Lib.hid (hn5.row (hn4.row YY3.out))
          have Z5 := Lib.hid (hn5.row (hn4.row ZZ3.out))
          have N5 := Lib.hid (N4.out.trans hn5)
          have HREM := Lib.hid hrem
          have HQUO := Lib.hid hquo
          have HYY := Lib.hid hy
          have EY := Lib.hid ey
          have HXL := Lib.hid (show dh < 18446744073709551616 ∧ dl < 18446744073709551616 from ⟨hdh, hdl⟩)
          clear hc ey
          clear hQb hT2 cT0 cT1 cR0 cR1 l5 hn4 hn5 rf0 rf1 hrem hquo hq hqr hd hy
          have cR0 : w5.cell? ⟨w.heap.size + 1 + 1 + 1 + 1 + 1, 0, none⟩ = some (.int .u64 (xh : Int)) := R5.out.cell 0
          have cR1 : w5.cell? ⟨w.heap.size + 1 + 1 + 1 + 1 + 1, 1, none⟩ = some (.int .u64 (xl : Int)) := R5.out.cell 1
          have cQ0 : w5.cell? ⟨w.heap.size + 1 + 1 + 1 + 1, 0, none⟩ = some (.int .u64 (qh : Int)) := Q5.out.cell 0
          have cQ1 : w5.cell? ⟨w.heap.size + 1 + 1 + 1 + 1, 1, none⟩ = some (.int .u64 (ql : Int)) := Q5.out.cell 1
          have rf0 : w5.frozen? ⟨w.heap.size + 1 + 1 + 1 + 1 + 1, 0, none⟩ = false := R5.out.free 0
          have rf1 : w5.frozen? ⟨w.heap.size + 1 + 1 + 1 + 1 + 1, 1, none⟩ = false := R5.out.free 1
          have qf0 : w5.frozen? ⟨w.heap.size + 1 + 1 + 1 + 1, 0, none⟩ = false := Q5.out.free 0
          have qf1 : w5.frozen? ⟨w.heap.size + 1 + 1 + 1 + 1, 1, none⟩ = false := Q5.out.free 1
          have l5 := R5.out.lt
          go_upto_region 13 with (fail)
          clear cR0 cR1 cQ0 cQ1 rf0 rf1 qf0 qf1 l5
          have R6 : Row ((w5.setCell ⟨w.heap.size + 1 + 1 + 1 + 1 + 1, 0, none⟩ (.int .u64 (dh : Int))).setCell ⟨w.heap.size + 1 + 1 + 1 + 1 + 1, 1, none⟩ (.int .u64 (dl : Int))) (w.heap.size + 1 + 1 + 1 + 1 + 1) 159 (words dh dl) := (R5.out.set 0 _).set 1 _
          have Q6 := Lib.hid (Q5.out.far2 (w.heap.size + 1 + 1 + 1 + 1 + 1) (by omega) 0 1 (.int .u64 (dh : Int)) (.int .u64 (dl : Int)))
          have S6 := Lib.hid (S5.out.far2 (w.heap.size + 1 + 1 + 1 + 1 + 1) (by omega) 0 1 (.int .u64 (dh : Int)) (.int .u64 (dl : Int)))
          have T6 := Lib.hid (T5.out.far2 (w.heap.size + 1 + 1 + 1 + 1 + 1) (by omega) 0 1 (.int .u64 (dh : Int)) (.int .u64 (dl : Int)))
          have Y6 := Lib.hid (Y5.out.far2 (w.heap.size + 1 + 1 + 1 + 1 + 1) (by omega) 0 1 (.int .u64 (dh : Int)) (.int .u64 (dl : Int)))
          have Z6 := Lib.hid (Z5.out.far2 (w.heap.size + 1 + 1 + 1 + 1 + 1) (by omega) 0 1 (.int .u64 (dh : Int)) (.int .u64 (dl : Int)))
          have N6 := Lib.hid (new_set (new_set N5.out (w.heap.size + 1 + 1 + 1 + 1 + 1) (by omega) 0 (.int .u64 (dh : Int))) (w.heap.size + 1 + 1 + 1 + 1 + 1) (by omega) 1 (.int .u64 (dl : Int)))
          have R6 := Lib.hid R6
          generalize ((w5.setCell ⟨w.heap.size + 1 + 1 + 1 + 1 + 1, 0, none⟩ (.int .u64 (dh : Int))).setCell ⟨w.heap.size + 1 + 1 + 1 + 1 + 1, 1, none⟩ (.int .u64 (dl : Int))) = w6 at *
          clear Q5 S5 T5 Y5 Z5 N5 R5
          have cQ0 : w6.cell? ⟨w.heap.size + 1 + 1 + 1 + 1, 0, none⟩ = some (.int .u64 (qh : Int)) := Q6.out.cell 0
          have cQ1 : w6.cell? ⟨w.heap.size + 1 + 1 + 1 + 1, 1, none⟩ = some (.int .u64 (ql : Int)) := Q6.out.cell 1
          have qf0 : w6.frozen? ⟨w.heap.size + 1 + 1 + 1 + 1, 0, none⟩ = false := Q6.out.free 0
          have qf1 : w6.frozen? ⟨w.heap.size + 1 + 1 + 1 + 1, 1, none⟩ = false := Q6.out.free 1
          have l5 := Q6.out.lt
          go_region
          rw [EY.out]
          have RQ := Lib.hid ((Q6.out.set 0 (.int .u64 (yh : Int))).drew)
          have RS := Lib.hid ((S6.out.far (p := ⟨w.heap.size + 1 + 1 + 1 + 1, 0, none⟩) (by show w.heap.size ≠ w.heap.size + 1 + 1 + 1 + 1; omega) (.int .u64 (yh : Int))).drew)
          have RT := Lib.hid ((T6.out.far (p := ⟨w.heap.size + 1 + 1 + 1 + 1, 0, none⟩) (by show w.heap.size + 1 ≠ w.heap.size + 1 + 1 + 1 + 1; omega) (.int .u64 (yh : Int))).drew)
          have RY := Lib.hid ((Y6.out.far (p := ⟨w.heap.size + 1 + 1 + 1 + 1, 0, none⟩) (by show w.heap.size + 1 + 1 ≠ w.heap.size + 1 + 1 + 1 + 1; omega) (.int .u64 (yh : Int))).drew)
          have RZ := Lib.hid ((Z6.out.far (p := ⟨w.heap.size + 1 + 1 + 1 + 1, 0, none⟩) (by show w.heap.size + 1 + 1 + 1 ≠ w.heap.size + 1 + 1 + 1 + 1; omega) (.int .u64 (yh : Int))).drew)
          have RR := Lib.hid ((R6.out.far (p := ⟨w.heap.size + 1 + 1 + 1 + 1, 0, none⟩) (by show w.heap.size + 1 + 1 + 1 + 1 + 1 ≠ w.heap.size + 1 + 1 + 1 + 1; omega) (.int .u64 (yh : Int))).drew)
          have RN := Lib.hid ((new_set N6.out (w.heap.size + 1 + 1 + 1 + 1) (by omega) 0 (.int .u64 (yh : Int))).drew)
          generalize (w6.setCell ⟨w.heap.size + 1 + 1 + 1 + 1, 0, none⟩ (.int .u64 (yh : Int))).drew = w7 at *
          clear cQ0 cQ1 qf0 qf1 l5 R6 S6 T6 Y6 Z6 N6 Q6 hrr hrl hxh hxl hdh hdl EY
          go_wp2_with fail
          exact ⟨⟨k, by omega, rfl, RS.out, RT.out, RY.out, RZ.out, by rw [HQUO.out]; exact SizeAt.of (RQ.out) hql hyh HYY.out, by rw [← HREM.out]; exact ⟨by have := HXL.out; exact two_lt this.1 this.2, by rw [(two_div HXL.out.2 rfl).1, (two_div HXL.out.2 rfl).2]; exact RR.out⟩, RN.out⟩, by simp [intOf]⟩
        · have hlt : two xh xl < two th tl := by omega
          have hrem : two xh xl = remAt (two sh sl) (two th tl) k := by rw [rem_step _ _ _ hT, ← HX.out, if_neg hc]
          have hquo : quoAt (two sh sl) (two th tl) k = quoAt (two sh sl) (two th tl) (k + 1) := by rw [quo_step _ _ _ hT, ← HX.out, if_neg hc]; rfl
          have HREM := Lib.hid hrem
          have HQUO := Lib.hid hquo
          have HQB := Lib.hid hQb
          have HXL := Lib.hid (show xh < 18446744073709551616 ∧ xl < 18446744073709551616 from ⟨hxh, hxl⟩)
          have cmp := compare_lt xh xl th tl hxl h4 w3 hlt
          have CMP := Lib.hid cmp
          clear hrem hquo hQb hT2 hlt hc cmp
          go_wp2_with fail
          refine CMP.out.mono ?_
          rintro e w4 ⟨rfl, hn4⟩
          have RR := Lib.hid (hn4.row RR3.out)
          have RQ := Lib.hid (hn4.row QQ3.out)
          have RS := Lib.hid (hn4.row SS3.out)
          have RT := Lib.hid (hn4.row TT3.out)
          have RY := Lib.hid (hn4.row YY3.out)
          have RZ := Lib.hid (hn4.row ZZ3.out)
          have RN := Lib.hid (NN3.out.trans hn4)
          clear cT0 cT1 cR0 cR1 l5 hn4 CMP hrr hrl hxh hxl
          go_wp2_with fail
          exact ⟨⟨k, by omega, rfl, RS.out, RT.out, RY.out, RZ.out, by rw [HQUO.out]; exact ⟨HQB.out, RQ.out⟩, by rw [← HREM.out]; exact ⟨by have := HXL.out; exact two_lt this.1 this.2, by rw [(two_div HXL.out.2 rfl).1, (two_div HXL.out.2 rfl).2]; exact RR.out⟩, RN.out⟩, by simp [intOf]⟩
end Go.Proofs.Ytapfihlgemejiaa
