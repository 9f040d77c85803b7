/- looks and stands: what a map tells of a key and of a rank. -/
import Derived.Test.YtnhngaadegebfaaLooksLaws
import Derived.Deep.DeepCutAuto
import Derived.Test.YtnhngaadegebfaaWLast
namespace Go.Proofs.MT.II
open Go.RowKit Go.Proofs.YtnhngaadegebfaaW.PrintLast Go.Proofs.YtnhngaadegebfaaW.PrintWords
set_option linter.unusedVariables false
set_option linter.unusedSimpArgs false

theorem ceil_told (k : Int) (t : T Int Int) (h : Sorted t.toList) : (T.ceil k .nil t).root = if (0 : Int) ≤ (lessN t.toList k : Int) then t.toList[((lessN t.toList k : Nat) : Int).toNat]? else none := by
  rw [T.ceil_spec k t h .nil, ceil_row t.toList h k, if_pos (by omega)]
  show Option.or _ none = _
  rw [Option.or_none]
  rfl
theorem floor_told (k : Int) (t : T Int Int) (h : Sorted t.toList) : (T.floor k .nil t).root =
    if (0 : Int) ≤ (lessN t.toList k : Int) - (if has t.toList k then 0 else 1) then t.toList[((lessN t.toList k : Int) - (if has t.toList k then 0 else 1)).toNat]? else none := by
  rw [T.floor_spec k t h .nil, floor_row t.toList h k _ rfl, notGreater k t.toList h]
  show Option.or _ none = _
  rw [Option.or_none]
  cases has t.toList k with
  | true =>
    simp only [if_true]
    rw [if_pos (by omega), if_pos (by omega)]
    congr 1
  | false =>
    simp only [Bool.false_eq_true, if_false]
    by_cases h0 : 0 < lessN t.toList k
    · rw [if_pos (by omega), if_pos (by omega)]
      congr 1
      omega
    · rw [if_neg (by omega), if_neg (by omega)]
theorem floor_in (k : Int) (t : T Int Int) (h : Sorted t.toList) (hh : has t.toList k = true) : (T.floor k .nil t).root = if (0 : Int) ≤ (lessN t.toList k : Int) then t.toList[((lessN t.toList k : Nat) : Int).toNat]? else none := by
  rw [floor_told k t h, hh]
  simp only [if_true, Int.sub_zero]
theorem floor_out (k : Int) (t : T Int Int) (h : Sorted t.toList) (hh : has t.toList k = false) : (T.floor k .nil t).root = if (0 : Int) ≤ (lessN t.toList k : Int) - 1 then t.toList[((lessN t.toList k : Int) - 1).toNat]? else none := by
  rw [floor_told k t h, hh]
  simp only [Bool.false_eq_true, if_false]
theorem floor3 (t : T Int Int) (k : Int) (p : Option Addr) (w : World) (h : Tr w.heap.size w p t) : Calls Try.prog 83 #[.agg #[.pointer p], .int .i64 k] w fun e w' => ∃ a x b, e = .returned (.tuple #[.int .i64 a, .int .i64 x, .bool b]) ∧ Told a x b (T.floor k .nil t).root ∧ Below w.heap.size w w' := by
  obtain ⟨a, x, b, h1, h2⟩ := told3 (T.floor k .nil t)
  exact (Floor_any t k p w h).mono fun e w' ⟨h3, h4⟩ => ⟨a, x, b, by rw [h3, h1], h2, h4⟩
theorem ceil3 (t : T Int Int) (k : Int) (p : Option Addr) (w : World) (h : Tr w.heap.size w p t) : Calls Try.prog 84 #[.agg #[.pointer p], .int .i64 k] w fun e w' => ∃ a x b, e = .returned (.tuple #[.int .i64 a, .int .i64 x, .bool b]) ∧ Told a x b (T.ceil k .nil t).root ∧ Below w.heap.size w w' := by
  obtain ⟨a, x, b, h1, h2⟩ := told3 (T.ceil k .nil t)
  exact (Ceil_any t k p w h).mono fun e w' ⟨h3, h4⟩ => ⟨a, x, b, by rw [h3, h1], h2, h4⟩
theorem at3 (t : T Int Int) (i : Int) (hi : i ≤ 9223372036854775807) (p : Option Addr) (w : World) (h : Tr w.heap.size w p t) : Calls Try.prog 71 #[.agg #[.pointer p], .int .i64 i] w fun e w' => ∃ a x b, e = .returned (.tuple #[.int .i64 a, .int .i64 x, .bool b]) ∧ Told a x b (if 0 ≤ i then t.toList[i.toNat]? else none) ∧ Below w.heap.size w w' := by
  obtain ⟨a, x, b, h1, h2⟩ := told3 (t.at_ i)
  rw [T.at_spec] at h2
  exact (At_any t i hi p w h).mono fun e w' ⟨h3, h4⟩ => ⟨a, x, b, by rw [h3, h1], h2, h4⟩
theorem getB (t : T Int Int) (hs : Sorted t.toList) (k : Int) (p : Option Addr) (w : World) (h : Tr w.heap.size w p t) : Calls Try.prog 82 #[.agg #[.pointer p], .int .i64 k] w fun e w' => ∃ x b, e = .returned (.tuple #[.int .i64 x, .bool b]) ∧ ((b = false ∧ x = 0 ∧ ∀ q ∈ t.toList, q.1 ≠ k) ∨ (b = true ∧ (k, x) ∈ t.toList)) ∧ Below w.heap.size w w' := by
  obtain ⟨x, b, h1, h2⟩ := get2 (T.find k t)
  refine (Get_any t k p w h).mono fun e w' ⟨h3, h4⟩ => ⟨x, b, by rw [h3, h1], ?_, h4⟩
  rcases h2 with ⟨h5, rfl, rfl⟩ | ⟨⟨l, q, r, h5⟩, rfl⟩
  · exact .inl ⟨rfl, rfl, (find_where hs).1 h5⟩
  · rcases T.find_spec k t hs with ⟨h6, _⟩ | ⟨l', v, r', h6, h7⟩
    · rw [h5] at h6; cases h6
    · have : q = k ∧ x = v := by
        rw [h5] at h6
        injection h6 with _ h9 h10
        exact ⟨h9, h10⟩
      rw [this.2]
      exact .inr ⟨rfl, h7⟩

set_option maxRecDepth 100000 in
set_option maxHeartbeats 1600000 in
theorem stands_any (t : T Int Int) (hs : Sorted t.toList) (hz : t.size ≤ 1000) (i : Int) (hi : i ≤ 9223372036854775807) (p A : Option Addr) (n c : Nat) (w : World) (bad : Nat → Prop) (h : Tr w.heap.size w p t) (hr : Holds w bad (.slice A n c) t.toList) :
    Calls Try.prog 45 #[.agg #[.pointer p], .slice A n c, .int .i64 i] w fun e w' => e = .returned (.bool true) ∧ Below w.heap.size w w' := by
  have hb := below_one w (.cells #[.pointer p] 28)
  have hc0 : (w.alloc (.cells #[.pointer p] 28)).cell? ⟨w.heap.size, 0, none⟩ = some (.pointer p) := cell_new _ _ _ _ _ _ rfl
  have ht1 := h.later hb
  have hr1 := hr.later hb
  go_enter Try.func45, Try.ntmps45
  go_upto_region 1 with fail
  generalize w.alloc (.cells #[.pointer p] 28) = w1 at hb hc0 ht1 hr1 ⊢
  go_wp2_with (first
    | (go_at_call 71; refine (at3 t i hi p _ ht1).mono ?_; rintro e w2 ⟨a, x, b, rfl, htold, hb2⟩)
    | (go_at_call 85; refine (row_true (hr1.later hb2) htold).mono ?_; rintro e w3 ⟨rfl, hb3⟩))
  go_ret
  exact ⟨rfl, (hb.trans (hb2.mono hb.size)).trans (hb3.mono (hb.trans (hb2.mono hb.size)).size)⟩

set_option maxRecDepth 100000 in
set_option maxHeartbeats 1600000 in
theorem looks_any (t : T Int Int) (hs : Sorted t.toList) (hz : t.size ≤ 1000) (k : Int) (p A : Option Addr) (n c : Nat) (w : World) (bad : Nat → Prop) (h : Tr w.heap.size w p t) (hr : Holds w bad (.slice A n c) t.toList) :
    Calls Try.prog 44 #[.agg #[.pointer p], .slice A n c, .int .i64 k] w fun e w' => e = .returned (.bool true) ∧ Below w.heap.size w w' := by
  have hb := below_one w (.cells #[.pointer p] 28)
  have hc0 : (w.alloc (.cells #[.pointer p] 28)).cell? ⟨w.heap.size, 0, none⟩ = some (.pointer p) := cell_new _ _ _ _ _ _ rfl
  have hlt0 : w.heap.size < (w.alloc (.cells #[.pointer p] 28)).heap.size := by simp
  have ht1 := h.later hb
  have hr1 := hr.later hb
  have hz' : t.size ≤ 1099511627776 := by omega
  have hln : lessN t.toList k ≤ 1000 := by unfold lessN; have := List.length_filter_le (fun p : Int × Int => decide (p.1 < k)) t.toList; rw [T.length_toList] at this; omega
  obtain ⟨N, hN⟩ : ∃ N, N = lessN t.toList k := ⟨_, rfl⟩
  have wn : IntKind.i64.wrap ((N : Int) - 1) = (N : Int) - 1 := by rw [IntKind.wrap_i64]; omega
  have HN := Lib.hid hN
  clear hN
  go_enter Try.func44, Try.ntmps44
  go_upto_region 1 with fail
  generalize w.alloc (.cells #[.pointer p] 28) = w1 at hb hc0 hlt0 ht1 hr1 ⊢
  go_upto_region 3 with (first
    | (go_at_call 78; refine (refRank hr1 hs hz' k).mono ?_; rw [← HN.out]; rintro e w2 ⟨rfl, hx2⟩)
    | (go_at_call 81; refine (refFind (hr1.later hx2) hz' k).mono ?_; rintro e w3 ⟨r, rfl, hr0, hf1, hf2, hx3⟩; have hx3 := hx2.trans (hx3.mono hx2.size); have hc3 := (hx3.cell (p := ⟨w.heap.size, 0, none⟩) hlt0).trans hc0)
    | (go_at_call 82; refine (getB t hs k p _ (ht1.later hx3)).mono ?_; rintro e w4 ⟨x, b, rfl, hget, hx4⟩; have hx4 := hx3.trans (hx4.mono hx3.size); have hc4 := (hx4.cell (p := ⟨w.heap.size, 0, none⟩) hlt0).trans hc0))
  have tail : ∀ y, Below w1.heap.size w1 y → y.cell? ⟨w.heap.size, 0, none⟩ = some (.pointer p) := fun y hy => (hy.cell (p := ⟨w.heap.size, 0, none⟩) hlt0).trans hc0
  rcases hget with ⟨rfl, rfl, hno⟩ | ⟨rfl, hin⟩
  · have hneg : r < 0 := by
      rcases Int.lt_or_le r 0 with h0 | h0
      · exact h0
      · obtain ⟨z, hz1, hz2, _⟩ := hf1 h0
        exact absurd hz2 (hno z (List.mem_of_getElem? hz1))
    have hneg' : ¬ (0 : Int) ≤ r := by omega
    have hhas : Hid (has t.toList k = false) := by
      show has t.toList k = false
      cases e : has t.toList k with
      | false => rfl
      | true => obtain ⟨q, hq, e⟩ := (has_iff _ _).1 e; exact absurd e (hno q hq)
    go_wp2_with (first
      | (go_at_call 28; refine (Rank_any t k p _ (ht1.later hx4) hz').mono ?_; rw [rank_less k t hs, ← HN.out]; rintro e w5 ⟨rfl, hx5⟩; have hx5 := hx4.trans (hx5.mono hx4.size); have hc5 := tail _ hx5)
      | (go_at_call 83; refine (floor3 t k p _ (ht1.later hx5)).mono ?_; rintro e w6 ⟨a6, x6, b6, rfl, htf, hx6⟩; have hx6 := hx5.trans (hx6.mono hx5.size); have hc6 := tail _ hx6; rw [floor_out k t hs hhas.out, ← HN.out] at htf)
      | (go_at_call 84; refine (ceil3 t k p _ (ht1.later hx6)).mono ?_; rintro e w7 ⟨a7, x7, b7, rfl, htc, hx7⟩; have hx7 := hx6.trans (hx7.mono hx6.size); rw [ceil_told k t hs, ← HN.out] at htc)
      | (go_at_call 85; (with_reducible refine (row_true (hr1.later hx7) htf).mono ?_); rintro e w8 ⟨rfl, hx8⟩; have hx8 := hx7.trans (hx8.mono hx7.size))
      | (go_at_call 85; (with_reducible refine (row_true (hr1.later hx8) htc).mono ?_); rintro e w9 ⟨rfl, hx9⟩; have hx9 := hx8.trans (hx9.mono hx8.size)))
    go_ret
    exact ⟨rfl, hb.trans (hx9.mono hb.size)⟩
  · have h0 : 0 ≤ r := by
      rcases Int.lt_or_le r 0 with h0 | h0
      · exact absurd rfl (hf2 h0 _ hin)
      · exact h0
    have h0' : ¬ r < 0 := by omega
    obtain ⟨z, hz1, hz2, hlt⟩ := hf1 h0
    have hzz := hs.unique (List.mem_of_getElem? hz1) hin hz2
    subst hzz
    have hhas : Hid (has t.toList k = true) := (has_iff _ _).2 ⟨_, hin, rfl⟩
    obtain ⟨rfl, hncc, hrow⟩ := holds_row (hr1.later hx4)
    rcases hrow with h1 | ⟨rb, ro, rfl, hrb, hrc⟩
    · rw [h1] at hin; cases hin
    have hcell := fun y (hy : Below w4.heap.size w4 y) => (hy.cell (p := ⟨rb, ro + r.toNat * 2 + 1, none⟩) hrb).trans (hrc _ _ hz1).2
    go_wp2_with (first
      | (go_at_call 28; refine (Rank_any t k p _ (ht1.later hx4) hz').mono ?_; rw [rank_less k t hs, ← HN.out]; rintro e w5 ⟨rfl, hx5⟩; have hcell5 := hcell _ hx5; have hx5 := hx4.trans (hx5.mono hx4.size); have hc5 := tail _ hx5)
      | (go_at_call 83; refine (floor3 t k p _ (ht1.later hx5)).mono ?_; rintro e w6 ⟨a6, x6, b6, rfl, htf, hx6⟩; have hx6 := hx5.trans (hx6.mono hx5.size); have hc6 := tail _ hx6; rw [floor_in k t hs hhas.out, ← HN.out] at htf)
      | (go_at_call 84; refine (ceil3 t k p _ (ht1.later hx6)).mono ?_; rintro e w7 ⟨a7, x7, b7, rfl, htc, hx7⟩; have hx7 := hx6.trans (hx7.mono hx6.size); rw [ceil_told k t hs, ← HN.out] at htc)
      | (go_at_call 85; (with_reducible refine (row_true (hr1.later hx7) htf).mono ?_); rintro e w8 ⟨rfl, hx8⟩; have hx8 := hx7.trans (hx8.mono hx7.size))
      | (go_at_call 85; (with_reducible refine (row_true (hr1.later hx8) htc).mono ?_); rintro e w9 ⟨rfl, hx9⟩; have hx9 := hx8.trans (hx9.mono hx8.size)))
    go_ret
    exact ⟨rfl, hb.trans (hx9.mono hb.size)⟩
end Go.Proofs.MT.II
