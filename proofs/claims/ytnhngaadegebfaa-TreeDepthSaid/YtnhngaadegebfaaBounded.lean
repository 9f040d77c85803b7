/- bounded: a balanced tree is as shallow as it must be, and no shallower than its keys allow. -/
import Derived.Test.YtnhngaadegebfaaBox
import Derived.Test.YtnhngaadegebfaaQx1
namespace Go.Proofs.MT.II
open Go.RowKit Go.Proofs.Ytnhngaadegebfaa.Q Go.Proofs.YtnhngaadegebfaaW.PrintWords

theorem most_round (m : Nat) : ∀ (k n : Nat) (out : Int), n < 2 ^ m → n ≤ 1099511627776 → m < k → 0 ≤ out → out ≤ 1000 - 3 * m → m ≤ 100 → ∃ b : Nat, merinoref02_Most.l0 k n out = some (out + 3 * b) ∧ n + 1 ≤ 2 ^ b := by
  induction m with
  | zero =>
    intro k n out h1 h0 h2 h3 h4 h5
    obtain ⟨k, rfl⟩ : ∃ j, k = j + 1 := ⟨k - 1, by omega⟩
    obtain rfl : n = 0 := by simpa using h1
    exact ⟨0, by simp [merinoref02_Most.l0], by simp⟩
  | succ m ih =>
    intro k n out h1 h0 h2 h3 h4 h5
    obtain ⟨k, rfl⟩ : ∃ j, k = j + 1 := ⟨k - 1, by omega⟩
    rcases Nat.eq_zero_or_pos n with rfl | hn
    · exact ⟨0, by simp [merinoref02_Most.l0], by simp⟩
    have hq : n / 2 < 2 ^ m := by rw [Nat.pow_succ] at h1; omega
    obtain ⟨b, hb, hb'⟩ := ih k (n / 2) (out + 3) hq (by omega) (by omega) (by omega) (by omega) (by omega)
    refine ⟨b + 1, ?_, by rw [Nat.pow_succ]; omega⟩
    simp only [merinoref02_Most.l0]
    have e1 : wrap64 ((n : Int).tdiv 2) = ((n / 2 : Nat) : Int) := by
      rw [Int.tdiv_eq_ediv_of_nonneg (by omega)]
      unfold wrap64
      omega
    have e2 : wrap64 (out + 3) = out + 3 := by unfold wrap64; omega
    rw [if_pos (by omega), e1, e2, hb]
    congr 1
    push_cast
    omega

theorem most_f (n : Nat) (hn : n ≤ 1099511627776) : ∃ b : Nat, merinoref02_Most.f 50 n = some (3 * (b : Int)) ∧ n + 1 ≤ 2 ^ b := by
  obtain ⟨b, h1, h2⟩ := most_round 41 50 n 0 (by omega) hn (by omega) (by omega) (by omega) (by omega)
  exact ⟨b, by rw [show (3 * (b : Int)) = 0 + 3 * (b : Int) from by omega]; exact h1, h2⟩

set_option maxRecDepth 100000 in
set_option maxHeartbeats 1000000 in
theorem bounded_any (t : T Int Int) (hB : t.Bal) (p : Option Addr) (w : World) (h : Tr w.heap.size w p t) (hs : t.size ≤ 1099511627776) :
    Calls Try.prog 31 #[.agg #[.pointer p]] w fun e w' => e = .returned (.bool true) ∧ Below w.heap.size w w' := by
  have hb := below_one w (.cells #[.pointer p] 28)
  have h1 := h.later hb
  obtain ⟨W, hW⟩ : ∃ W, W = w.alloc (.cells #[.pointer p] 28) := ⟨_, rfl⟩
  have hc : W.cell? ⟨w.heap.size, 0, none⟩ = some (.pointer p) := by rw [hW]; exact cell_new _ _ _ _ _ _ rfl
  have hlt : w.heap.size < W.heap.size := by rw [hW]; simp
  rw [← hW] at hb h1
  have g : ∀ w', Below W.heap.size W w' → w'.cell? ⟨w.heap.size, 0, none⟩ = some (.pointer p) := cell_later (a := ⟨_, 0, none⟩) hlt hc
  obtain ⟨b, hm, hb2⟩ := most_f t.size hs
  have hd := T.depth_le b t hB hb2
  have hd2 := T.size_lt_depth t
  have k1 : (0 : Int) ≤ (t.depth : Int) := by omega
  have k2 : (t.depth : Int) ≤ 3 * (b : Int) := by omega
  have hsh : (decide (20 ≤ (t.depth : Int)) || decide ((t.size : Int) < wrap64 (2 ^ t.depth))) = true := by
    by_cases h20 : t.depth < 20
    · have e1 : 2 ^ t.depth ≤ 2 ^ 19 := Nat.pow_le_pow_right (by decide) (by omega)
      have e2 : ((2 ^ t.depth : Nat) : Int) = (2 : Int) ^ t.depth := by push_cast; rfl
      have e3 : wrap64 ((2 : Int) ^ t.depth) = (2 : Int) ^ t.depth := by rw [← e2]; unfold wrap64; omega
      rw [e3, ← e2]
      simp
      omega
    · simp
      omega
  go_enter Try.func31, Try.ntmps31
  go_wp2_with fail
  rw [← hW]
  clear hW
  go_region_held3 (fun w' => Below W.heap.size W w') (repeat (first | assumption | exact Below.refl _ _ | apply Below.drew)) (first
    | (go_at_call 67; refine (Depth_any t p _ (h1.later (by assumption)) hs).mono ?_; rintro e w1 ⟨rfl, hb1⟩; have hk1 : Below W.heap.size W w1 := Below.trans (by assumption) (hb1.mono (Below.size (by assumption))))
    | (go_at_call 17; refine (Len_any t p _ (h1.later (by assumption))).mono ?_; rintro e w2 ⟨rfl, hb3⟩; have hk2 : Below W.heap.size W w2 := Below.trans (by assumption) (hb3.mono (Below.size (by assumption)))))
  all_goals go_wp2_with (go_at_call 68; refine (merinoref02_Most.calls 50 _ _ _ hm).mono ?_; rintro e w' ⟨rfl, hdr⟩)
  all_goals go_ret
  all_goals have hb4 := hb.trans ((hk2.trans (hdr.below.mono hk2.size)).mono hb.size)
  all_goals exact ⟨rfl, hb4⟩
end Go.Proofs.MT.II
