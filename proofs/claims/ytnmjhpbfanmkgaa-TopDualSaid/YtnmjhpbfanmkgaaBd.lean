/- press.bound: what is printed of it is the bound of the plain law. -/
import Derived.Test.YtnmjhpbfanmkgaaBase
namespace Go.Proofs.Bins
open Go.RowKit Go.Proofs.YtnmjhpbfanmkgaaW.PrintWords Go.Proofs.YtnmjhpbfanmkgaaW.PrintLast Go.Proofs.YtnmjhpbfanmkgaaW.PrintMore Go.Proofs.Ytnmjhpbfanmkgaa.Q
def fin4 (most : Int) (v : Int × Int × Int × Int) : Int :=
  v.1 + v.2.1 + (if 0 < v.2.2.2 - (v.2.1 * most - v.2.2.1) then (v.2.2.2 - (v.2.1 * most - v.2.2.1) + most - 1) / most else 0)
theorem mulB {a b M : Int} (h0 : 0 ≤ a) (h1 : a ≤ 12) (h2 : 1 ≤ b) (h3 : b ≤ 1073741824) : 0 ≤ a * b ∧ a * b ≤ 12 * 1073741824 :=
  ⟨Int.mul_nonneg h0 (by omega), Int.mul_le_mul h1 h3 (by omega) (by omega)⟩
theorem divB {a b : Int} (h0 : 0 ≤ a) (h1 : a ≤ 100 * 1073741824) (h2 : 1 ≤ b) : 0 ≤ a / b ∧ a / b ≤ 100 * 1073741824 :=
  ⟨Int.ediv_nonneg h0 (by omega), Int.le_trans (Int.ediv_le_self _ h0) h1⟩
theorem fin4_w {most x8 x9 x10 x11 best : Int} (hm : 1 ≤ most ∧ most ≤ 1073741824) (h8 : 0 ≤ x8 ∧ x8 ≤ 12) (h9 : 0 ≤ x9 ∧ x9 ≤ 12) (h10 : 0 ≤ x10 ∧ x10 ≤ 12 * 1073741824) (h11 : 0 ≤ x11 ∧ x11 ≤ 12 * 1073741824) :
    0 ≤ fin4 most (x8, x9, x10, x11) ∧ fin4 most (x8, x9, x10, x11) ≤ 101 * 1073741824 ∧ ∀ (G : Int → Option Int),
    (if (wrap64 (x11 - (wrap64 ((wrap64 (x9 * most)) - x10)))) > 0 then (if most = 0 then (none) else G (mx best (wrap64 ((wrap64 (x8 + x9)) + (wrap64 (Int.tdiv (wrap64 ((wrap64 ((wrap64 (x11 - (wrap64 ((wrap64 (x9 * most)) - x10)))) + most)) - 1)) most)))))) else G (mx best (wrap64 ((wrap64 (x8 + x9)) + 0)))) = G (mx best (fin4 most (x8, x9, x10, x11))) := by
  obtain ⟨p0, p1⟩ := mulB (M := 0) h9.1 h9.2 hm.1 hm.2
  have e : fin4 most (x8, x9, x10, x11) = x8 + x9 + (if 0 < x11 - (x9 * most - x10) then (x11 - (x9 * most - x10) + most - 1) / most else 0) := rfl
  rw [e]
  generalize x9 * most = P at *
  rw [w64 (x := P) (by omega) (by omega), w64 (x := P - x10) (by omega) (by omega), w64 (x := x11 - (P - x10)) (by omega) (by omega), w64 (x := x8 + x9) (by omega) (by omega)]
  by_cases c : 0 < x11 - (P - x10)
  · rw [if_pos c]
    have q := divB (a := x11 - (P - x10) + most - 1) (b := most) (by omega) (by omega) hm.1
    refine ⟨by omega, by omega, fun G => ?_⟩
    rw [if_pos c, if_neg (by omega), w64 (x := x11 - (P - x10) + most) (by omega) (by omega), w64 (x := x11 - (P - x10) + most - 1) (by omega) (by omega), Int.tdiv_eq_ediv_of_nonneg (by omega)]
    generalize (x11 - (P - x10) + most - 1) / most = D at *
    rw [w64 (x := D) (by omega) (by omega), w64 (x := x8 + x9 + D) (by omega) (by omega)]
  · rw [if_neg c]
    refine ⟨by omega, by omega, fun G => ?_⟩
    rw [if_neg c, w64 (x := x8 + x9 + 0) (by omega) (by omega)]
theorem bound_l1 {l : List Int} {most a best : Int} (hl : l.length ≤ 12) (hx : ∀ x ∈ l, 1 ≤ x ∧ x ≤ 1073741824) (hm : 1 ≤ most ∧ most ≤ 1073741824) (ha : 0 ≤ a ∧ a ≤ 1073741824) {x18 : List Int} {x19 x20 : Int} (h20 : 0 ≤ x20 ∧ x20 ≤ 100) {r : Int} {K : Nat} :
    ∀ (c i : Nat), l.length - i = c → i ≤ l.length → ∀ (x8 x9 x10 x11 : Int), 0 ≤ x8 ∧ x8 ≤ i → 0 ≤ x9 ∧ x9 ≤ i → 0 ≤ x10 ∧ x10 ≤ i * 1073741824 → 0 ≤ x11 ∧ x11 ≤ i * 1073741824 →
    (∀ k, K ≤ k → press_bound.l0 k l most (mx best (fin4 most (four most a (l.drop i) (x8, x9, x10, x11)))) x18 x19 (x20 + 1) = some r) →
    ∀ k, K + c + 1 ≤ k → press_bound.l1 k l most best a x8 x9 x10 x11 x18 x19 x20 l (l.length : Int) i = some r := by
  intro c
  induction c with
  | zero =>
    intro i hc hi x8 x9 x10 x11 h8 h9 h10 h11 H k hk
    obtain rfl : i = l.length := by omega
    rw [List.drop_length] at H
    obtain ⟨k, rfl⟩ : ∃ k', k = k' + 1 := ⟨k - 1, by omega⟩
    rw [press_bound.l1, if_neg (by omega)]
    have := (fin4_w (best := best) hm (by omega) (by omega : 0 ≤ x9 ∧ x9 ≤ 12) (by omega : 0 ≤ x10 ∧ x10 ≤ 12 * 1073741824) (by omega : 0 ≤ x11 ∧ x11 ≤ 12 * 1073741824) : 0 ≤ fin4 most (x8, x9, x10, x11) ∧ _).2.2 (fun b => press_bound.l0 k l most b x18 x19 (wrap64 (x20 + 1)))
    rw [this, w64 (x := x20 + 1) (by omega) (by omega)]
    exact H k (by omega)
  | succ c ih =>
    intro i hc hi x8 x9 x10 x11 h8 h9 h10 h11 H k hk
    obtain ⟨k, rfl⟩ : ∃ k', k = k' + 1 := ⟨k - 1, by omega⟩
    have hlt : i < l.length := by omega
    have hm1 := hx _ (at_mem hlt)
    rw [drop_at hlt, four] at H
    rw [press_bound.l1, if_pos (by omega), if_pos (by omega), if_pos (by omega), rd_nat]
    generalize at_ l i = m at *
    rw [w64 (x := most - a) (by omega) (by omega), w64 (x := 2 * m) (by omega) (by omega), w64 (x := (i : Int) + 1) (by omega) (by omega), w64 (x := x8 + 1) (by omega) (by omega), w64 (x := x9 + 1) (by omega) (by omega), w64 (x := x10 + m) (by omega) (by omega), w64 (x := x11 + m) (by omega) (by omega)]
    have S := fun x8 x9 x10 x11 a b c d => ih (i + 1) (by omega) (by omega) x8 x9 x10 x11 a b c d
    rw [show ((i + 1 : Nat) : Int) = (i : Int) + 1 by omega] at S
    by_cases c1 : most - a < m
    · rw [if_pos c1] at H ⊢
      exact S _ _ _ _ (by omega) (by omega) (by omega) (by omega) H k (by omega)
    · rw [if_neg c1] at H ⊢
      by_cases c2 : most < 2 * m
      · rw [if_pos c2] at H ⊢
        exact S _ _ _ _ (by omega) (by omega) (by omega) (by omega) H k (by omega)
      · rw [if_neg c2] at H ⊢
        by_cases c3 : a ≤ m
        · rw [if_pos c3] at H ⊢
          exact S _ _ _ _ (by omega) (by omega) (by omega) (by omega) H k (by omega)
        · rw [if_neg c3] at H ⊢
          exact S _ _ _ _ (by omega) (by omega) (by omega) (by omega) H k (by omega)
theorem mx_max (a b : Int) : mx a b = max a b := by unfold mx; split <;> omega
theorem bound_l0 {l : List Int} {most : Int} (hl : l.length ≤ 12) (hx : ∀ x ∈ l, 1 ≤ x ∧ x ≤ 1073741824) (hm : 1 ≤ most ∧ most ≤ 1073741824) {bs : List Int} (has : bs.length ≤ 13) (ha : ∀ a ∈ bs, 0 ≤ a ∧ a ≤ 1073741824) :
    ∀ (c j : Nat), bs.length - j = c → j ≤ bs.length → ∀ best : Int, ∃ K, ∀ k, K ≤ k → press_bound.l0 k l most best bs (bs.length : Int) j = some (boundP l most (bs.drop j) best) := by
  intro c
  induction c with
  | zero =>
    intro j hc hj best
    obtain rfl : j = bs.length := by omega
    refine ⟨1, fun k hk => ?_⟩
    obtain ⟨k, rfl⟩ : ∃ k', k = k' + 1 := ⟨k - 1, by omega⟩
    rw [press_bound.l0, if_neg (by omega), List.drop_length, boundP]
  | succ c ih =>
    intro j hc hj best
    have hlt : j < bs.length := by omega
    have ha1 := ha _ (at_mem hlt)
    rw [drop_at hlt, boundP]
    obtain ⟨a, hae⟩ : ∃ a, a = at_ bs j := ⟨_, rfl⟩
    rw [← hae] at ha1 ⊢
    obtain ⟨K, hK⟩ := ih (j + 1) (by omega) (by omega) (if 2 * a > most then best else max best (boundAt l most a))
    rw [show ((j + 1 : Nat) : Int) = (j : Int) + 1 by omega] at hK
    refine ⟨K + l.length + 2, fun k hk => ?_⟩
    obtain ⟨k, rfl⟩ : ∃ k', k = k' + 1 := ⟨k - 1, by omega⟩
    rw [press_bound.l0, if_pos (by omega), if_pos (by omega), if_pos (by omega), rd_nat, ← hae, w64 (x := 2 * a) (by omega) (by omega), w64 (x := (j : Int) + 1) (by omega) (by omega)]
    by_cases c1 : 2 * a > most
    · rw [if_pos c1] at hK
      rw [if_pos c1, if_pos c1]
      exact hK k (by omega)
    · rw [if_neg c1] at hK
      rw [if_neg c1, if_neg c1]
      refine bound_l1 hl hx hm ha1 (x20 := (j : Int)) (by omega) (K := K) l.length 0 (by omega) (by omega) 0 0 0 0 (by omega) (by omega) (by omega) (by omega) (fun k hk => ?_) k (by omega)
      rw [mx_max, List.drop_zero]
      exact hK k hk
theorem bound_f {l : List Int} {most : Int} (hl : l.length ≤ 12) (hx : ∀ x ∈ l, 1 ≤ x ∧ x ≤ 1073741824) (hm : 1 ≤ most ∧ most ≤ 1073741824) : ∃ k, press_bound.f k l most = some (boundP l most (0 :: l) 0) := by
  obtain ⟨K, hK⟩ := bound_l0 (bs := 0 :: l) hl hx hm (by simp; omega) (fun a h => by
    rcases List.mem_cons.1 h with rfl | h
    · omega
    · have := hx a h; omega) (0 :: l).length 0 (by omega) (by omega) 0
  refine ⟨K, ?_⟩
  unfold press_bound.f
  show (if ([0] : List Int).length + l.length < 17592186044416 then _ else none) = _
  rw [if_pos (by simp; omega)]
  exact hK K (Nat.le_refl _)
end Go.Proofs.Bins
