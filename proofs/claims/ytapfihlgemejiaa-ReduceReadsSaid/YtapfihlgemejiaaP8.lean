/- reduce: what was packed is unpacked as it was; the plain side of ReduceBack. -/
import Derived.Test.YtapfihlgemejiaaC3
import Derived.Test.YtapfihlgemejiaaP4
namespace Go.Proofs.Ytapfihlgemejiaa
theorem gt_left {a b : List Int} {k : Nat} (h : k < a.length) : gt (a ++ b) k = gt a k := by
  unfold gt; rw [List.getD_eq_getElem?_getD, List.getElem?_append_left h, List.getD_eq_getElem?_getD]
theorem gt_right {a b : List Int} {k : Nat} (h : a.length ≤ k) : gt (a ++ b) k = gt b (k - a.length) := by
  unfold gt; rw [List.getD_eq_getElem?_getD, List.getElem?_append_right h, List.getD_eq_getElem?_getD]
theorem packTo_gt (z : Zn) {s k : Nat} (hk : k < 5) : ∀ t, t ≤ (fewN z).length → s < t → gt (packTo z t) (2 + 5 * s + k) = gt (limBytes ((fewN z).getD s ⟨0, 0, 0⟩)) k
  | t + 1, ht, hs => by
    rw [packTo_succ z (by omega)]
    have hl := packTo_length z t (by omega)
    by_cases e : s = t
    · subst e
      rw [gt_right (by omega), hl, Nat.add_sub_cancel_left]
    · rw [gt_left (by omega)]
      exact packTo_gt z hk t (by omega) (by omega)
theorem packTo_head (z : Zn) : ∀ t, t ≤ (fewN z).length → gt (packTo z t) 0 = z.n ∧ gt (packTo z t) 1 = ((fewN z).length : Nat)
  | 0, _ => ⟨rfl, rfl⟩
  | t + 1, h => by
    have hl := packTo_length z t (by omega)
    rw [packTo_succ z (by omega), gt_left (by omega), gt_left (by omega)]
    exact packTo_head z t (by omega)
theorem limAt_pack {z : Zn} (hg : ZGood z) {t : Nat} (ht : t < (fewN z).length) : limAt (packB z) t = (fewN z).getD t ⟨0, 0, 0⟩ := by
  have hx : (fewN z).getD t ⟨0, 0, 0⟩ ∈ fewN z := by rw [List.getD_eq_getElem?_getD, List.getElem?_eq_getElem ht]; exact List.getElem_mem _
  obtain ⟨x1, x2, x3⟩ := (fewN_small hg).2 _ hx
  have hn := hg.1
  have h0 := packTo_gt z (s := t) (k := 0) (by decide) _ (Nat.le_refl _) ht
  have h1 := packTo_gt z (s := t) (k := 1) (by decide) _ (Nat.le_refl _) ht
  have h2 := packTo_gt z (s := t) (k := 2) (by decide) _ (Nat.le_refl _) ht
  have h3 := packTo_gt z (s := t) (k := 3) (by decide) _ (Nat.le_refl _) ht
  have h4 := packTo_gt z (s := t) (k := 4) (by decide) _ (Nat.le_refl _) ht
  unfold limAt packB
  rw [Nat.add_zero] at h0
  rw [h0, h1, h2, h3, h4]
  generalize (fewN z).getD t ⟨0, 0, 0⟩ = x at *
  obtain ⟨i, j, b⟩ := x
  simp only at x1 x2 x3
  show (⟨(16 * i + j) / 16, (16 * i + j) % 16, (b + 2147483648) / 16777216 * 16777216 + (b + 2147483648) / 65536 % 256 * 65536 + (b + 2147483648) / 256 % 256 * 256 + (b + 2147483648) % 256 - 2147483648⟩ : Lim) = ⟨i, j, b⟩
  congr 1 <;> omega
theorem limsOf_pack {z : Zn} (hg : ZGood z) : limsOf (packB z) (fewN z).length = fewN z := by
  unfold limsOf
  apply List.ext_getElem (by simp)
  intro k h1 h2
  rw [List.getElem_map, List.getElem_range, limAt_pack hg h2, List.getD_eq_getElem?_getD, List.getElem?_eq_getElem h2]
  rfl
theorem packB_bytes {z : Zn} (hg : ZGood z) : ∀ x ∈ packB z, 0 ≤ x ∧ x ≤ 255 := by
  intro x hx
  have hn := hg.1
  obtain ⟨hl, hs⟩ := fewN_small hg
  unfold packB packTo at hx
  rw [List.mem_append, List.mem_flatMap] at hx
  rcases hx with hx | ⟨y, hy, hx⟩
  · simp only [List.mem_cons, List.not_mem_nil, or_false] at hx
    rcases hx with rfl | rfl <;> omega
  · obtain ⟨x1, x2, x3⟩ := hs y (List.mem_of_mem_take hy)
    obtain ⟨i, j, b⟩ := y
    simp only at x1 x2 x3
    unfold limBytes at hx
    simp only [List.mem_cons, List.not_mem_nil, or_false] at hx
    rcases hx with rfl | rfl | rfl | rfl | rfl <;> omega
theorem unpack_pack {z : Zn} (hg : ZGood z) : unpackR (packB z) = .ok z.n z.Z := by
  obtain ⟨h0, h1⟩ := packTo_head z _ (Nat.le_refl _)
  have hmk := fewN_make hg
  obtain ⟨_, hok, _⟩ := limZ_ok hmk
  rw [unpackR_all (b := packB z) h0 hg.1 h1 (packTo_length z _ (Nat.le_refl _)) (fun s hs => ?_), limsOf_pack hg, hmk]
  · simp
  · rw [limAt_pack hg hs]
    have hx : (fewN z).getD s ⟨0, 0, 0⟩ ∈ fewN z := by rw [List.getD_eq_getElem?_getD, List.getElem?_eq_getElem hs]; exact List.getElem_mem _
    have h2 := hok _ hx
    unfold limOk at h2
    simp only [Bool.and_eq_true, decide_eq_true_eq] at h2
    unfold okLim
    simp only [Bool.and_eq_true, decide_eq_true_eq]
    exact ⟨⟨h2.1.2.1, h2.1.2.2.2⟩, h2.2⟩
/-- Without one of the few. -/
def without (l : List Lim) (i : Nat) : List Lim := l.take i ++ l.drop (i + 1)
theorem without_greater {z : Zn} (hg : ZGood z) {i : Nat} (hi : i < (fewN z).length) : limZ z.n (without (fewN z) i) = .err 10 ∨ ∃ Y, limZ z.n (without (fewN z) i) = .ok Y ∧ Y ≠ z.Z ∧ inclB ⟨z.n, Y⟩ z = true := by
  refine fewer_greater (n := z.n) (Z := z.Z) hg (fun x hx => ?_) ?_
  · rcases List.mem_append.1 hx with h | h
    · exact List.mem_of_mem_take h
    · exact List.mem_of_mem_drop h
  · unfold without
    rw [List.length_append, List.length_take, List.length_drop]
    show _ < (fewN z).length
    omega
theorem bytes_own {w : World} {base c : Nat} {A : Option Addr} {b : List Int} (h : w.ownsRow base 5 1 (.slice A b.length c) b.length (ints8 b)) (hby : ∀ x ∈ b, 0 ≤ x ∧ x ≤ 255) (h0 : 0 < b.length) (hm : b.length ≤ 140737488355328) : BytesAt w A c b := by
  obtain ⟨g, hA, _, _, _⟩ := own_cell h (by rw [ints8_length]; exact h0)
  have hc : b.length ≤ c ∧ c ≤ maxLen := by
    rcases h.2 with ⟨_, e⟩ | ⟨_, cap, _, hv, _, _, h1, h2, _⟩
    · omega
    · injection hv with _ _ hc
      subst hc
      exact ⟨h1, h2⟩
  refine ⟨hc.1, hby, hm, hc.2, fun _ => ⟨g, 0, hA, fun W hW k hk => ?_⟩⟩
  obtain ⟨g', hA', _, _, hcell, _⟩ := own_cell (own_new h hW) (by rw [ints8_length]; exact h0)
  have e : g' = g := by
    rw [hA] at hA'
    simpa using hA'.symm
  subst e
  rw [Nat.zero_add]
  refine hcell k _ ?_
  unfold ints8 gt
  rw [List.getElem?_map, List.getElem?_eq_getElem hk, List.getD_eq_getElem?_getD, List.getElem?_eq_getElem hk]
  rfl
end Go.Proofs.Ytapfihlgemejiaa
