/- The law TreeDepth, walked. -/
import Derived.Test.YtnhngaadegebfaaA12
import Derived.Test.YtnhngaadegebfaaA9
import Derived.Test.YtnhngaadegebfaaBounded
import Derived.Test.YtnhngaadegebfaaAlive
import Derived.Test.YtnhngaadegebfaaDepthLaws
import Derived.Deep.DeepCutAuto
import Derived.Deep.CutBlock
import Derived.Test.YtnhngaadegebfaaWLast
namespace Go.Proofs.MT.II
open Go.RowKit Go.Proofs.YtnhngaadegebfaaW.PrintLast
set_option linter.unusedVariables false
set_option linter.unusedSimpArgs false

theorem bounded_box {n₀ : Nat} {W x : World} {b : Nat} {p : Option Addr} {t : T Int Int} (m : MBox n₀ W b p t) (hB : t.Bal) (hs : t.size ≤ 1099511627776) (hx : Below W.heap.size W x) :
    Calls Try.prog 31 #[.agg #[.pointer p]] x fun e w' => e = .returned (.bool true) ∧ Below W.heap.size W w' :=
  (bounded_any t hB p x (m.below hx).tree hs).mono fun _ _ ⟨h1, h2⟩ => ⟨h1, hx.trans (h2.mono hx.size)⟩
theorem len_box {n₀ : Nat} {W x : World} {b : Nat} {p : Option Addr} {t : T Int Int} (m : MBox n₀ W b p t) (hx : Below W.heap.size W x) :
    Calls Try.prog 17 #[.agg #[.pointer p]] x fun e w' => e = .returned (.int .i64 t.size) ∧ Below W.heap.size W w' :=
  (Len_any t p x (m.below hx).tree).mono fun _ _ ⟨h1, h2⟩ => ⟨h1, hx.trans (h2.mono hx.size)⟩

theorem range_size_le (a b : Int) (t : T Int Int) : (T.range a b t).size ≤ t.size + 1 := by
  unfold T.range
  split
  · have h1 := cut_sizes a t
    have h2 := cut_sizes b (T.rangeR (T.cut a t).2.1 (T.cut a t).2.2)
    have h3 : (T.rangeR (T.cut a t).2.1 (T.cut a t).2.2).size ≤ (T.cut a t).2.2.size + 1 := by
      cases (T.cut a t).2.1 with
      | nil => simp [T.rangeR]
      | node l k v r => simp only [T.rangeR, T.link_size, T.size]; omega
    omega
  · simp [T.size]

theorem Deletes.good {t : T Int Int} {k : Int} {w w' : World} {e : Ending} (h : Deletes t k w e w') (hB : t.Bal) (hS : Sorted t.toList) :
    ∃ p' b t', e = .returned (.tuple #[.agg #[.pointer p'], .bool b]) ∧ Below w.heap.size w w' ∧ Tr w'.heap.size w' p' t' ∧ t'.Bal ∧ Sorted t'.toList ∧ t'.size ≤ t.size ∧ ∀ p, p ∈ t'.toList ↔ p ∈ t.toList ∧ p.1 ≠ k := by
  obtain ⟨p', b, rfl, hb, ⟨hf, _, ht⟩ | ⟨_, _, ht⟩⟩ := h
  · refine ⟨p', b, t, rfl, hb, ht, hB, hS, Nat.le_refl _, fun p => ?_⟩
    rcases T.find_spec k t hS with ⟨_, h2⟩ | ⟨l, v, r, h2, _⟩
    · exact ⟨fun hp => ⟨hp, h2 p hp⟩, fun hp => hp.1⟩
    · rw [hf] at h2; cases h2
  · exact ⟨p', b, t.remove k, rfl, hb, ht, T.remove_bal _ _ hB, (T.remove_spec k t hS).1, by rcases T.remove_size k t with h | h <;> omega, (T.remove_spec k t hS).2⟩

/-- The cells of the cuts. -/
def Cuts3 (w : World) (A : Option Addr) (len : Nat) : Prop := len = 0 ∨ ∃ b o, A = some ⟨b, o, none⟩ ∧ b < w.heap.size ∧ ∀ i, i < len → ∃ c : Int, w.cell? ⟨b, o + i, none⟩ = some (.int .i64 c)

set_option maxRecDepth 100000 in
set_option maxHeartbeats 800000 in
theorem TreeDepth_walk (n leap : Int) (A : Option Addr) (len cap : Nat) (w : World) (h0 : 0 ≤ n) (h1 : n ≤ 65535) (h2 : 0 ≤ leap) (h3 : leap ≤ 255) (hc : len ≤ cap) (hcut : Cuts3 w A len) :
    Calls Try.prog 5 #[.int .u16 n, .int .u8 leap, .slice A len cap] w fun e w' => e = .returned (.bool true) ∧ Below w.heap.size w w' := by
  obtain ⟨s, hs⟩ : ∃ s, s = wrap64 (1 + n.tmod 3000) := ⟨_, rfl⟩
  obtain ⟨st, hst⟩ : ∃ st, st = wrap64 (1 + 2 * leap) := ⟨_, rfl⟩
  have hs' : s = 1 + n % 3000 := by rw [hs, Int.tmod_eq_emod_of_nonneg h0]; unfold wrap64; omega
  have hst' : st = 1 + 2 * leap := by rw [hst]; unfold wrap64; omega
  have hs0 : 0 < s := by omega
  have hs1 : s ≤ 3000 := by omega
  have hst0 : 0 < st := by omega
  have hst1 : st ≤ 511 := by omega
  have hs2 : ¬ s = 0 := by omega
  have w2 : IntKind.i64.wrap (2 * leap) = 2 * leap := by rw [IntKind.wrap_i64]; omega
  have w4 : IntKind.i64.wrap n = n := by rw [IntKind.wrap_i64]; omega
  have w5 : IntKind.i64.wrap leap = leap := by rw [IntKind.wrap_i64]; omega
  clear h0 h1 h2 h3 hs' hst'
  have hB0 := below_three w (.cells #[.pointer none] 28) (.cells #[.pointer none] 28) (.cells #[.pointer none] 28)
  have m9 : MBox w.heap.size (((w.alloc (.cells #[.pointer none] 28)).alloc (.cells #[.pointer none] 28)).alloc (.cells #[.pointer none] 28)) w.heap.size none .nil :=
    ((MBox.new (W := w) (p := none) (t := .nil) (Nat.le_refl _) rfl).below (below_one _ _)).below (below_one _ _)
  have m10 : MBox w.heap.size (((w.alloc (.cells #[.pointer none] 28)).alloc (.cells #[.pointer none] 28)).alloc (.cells #[.pointer none] 28)) (w.heap.size + 1) none .nil := by
    have := (MBox.new (n₀ := w.heap.size) (W := w.alloc (.cells #[.pointer none] 28)) (p := none) (t := .nil) (by simp) rfl).below (below_one _ (.cells #[.pointer none] 28))
    simpa using this
  have m11 : MBox w.heap.size (((w.alloc (.cells #[.pointer none] 28)).alloc (.cells #[.pointer none] 28)).alloc (.cells #[.pointer none] 28)) (w.heap.size + 1 + 1) none .nil := by
    have := (MBox.new (n₀ := w.heap.size) (W := (w.alloc (.cells #[.pointer none] 28)).alloc (.cells #[.pointer none] 28)) (p := none) (t := .nil) (by simp; omega) rfl)
    simpa using this
  go_enter Try.func5, Try.ntmps5
  go_wp2_with fail
  rw [← hs, ← hst]
  clear hs hst w2 w4 w5
  generalize ((w.alloc (.cells #[.pointer none] 28)).alloc (.cells #[.pointer none] 28)).alloc (.cells #[.pointer none] 28) = W at hB0 m9 m10 m11 ⊢
  go_loopg [12] s.toNat (fun k x12 wr => ∃ i : Nat, x12 = .int .i64 i ∧ (i : Int) ≤ s ∧ Below w.heap.size w wr ∧ (∃ p, MBox w.heap.size wr w.heap.size p (ups i)) ∧ (∃ p, MBox w.heap.size wr (w.heap.size + 1) p (downs s i)) ∧ (∃ p, MBox w.heap.size wr (w.heap.size + 1 + 1) p (wilds s st i)) ∧ Hid (s.toNat - i = k))
  case atStart => exact ⟨0, rfl, by omega, hB0, ⟨_, m9⟩, ⟨_, m10⟩, ⟨_, m11⟩, rfl⟩
  case round =>
    obtain ⟨i, rfl, hi, hb, ⟨p9, m9⟩, ⟨p10, m10⟩, ⟨p11, m11⟩, HN⟩ := hrel
    by_cases hlt : (i : Int) < s
    · have d1 : IntKind.i64.wrap ((i : Int) + 1) = ((i + 1 : Nat) : Int) := by rw [IntKind.wrap_i64]; push_cast; omega
      have d2 : IntKind.i64.wrap (s - i) = s - i := by rw [IntKind.wrap_i64]; omega
      have d3 : IntKind.i64.wrap ((i : Int) * st) = i * st := by rw [IntKind.wrap_i64]; have h1 : (i : Int) * st ≤ 3000 * 511 := Int.mul_le_mul (by omega) hst1 (by omega) (by omega); have h2 : 0 ≤ (i : Int) * st := Int.mul_nonneg (by omega) (by omega); omega
      have z1 : (ups i).size ≤ i := Nat.le_of_eq (ups_size i)
      have z2 := (downs_good s i).2.2
      have z3 := (wilds_good s st i).2.2
      have e9 := m9.cell
      have f9 := m9.fr
      go_upto_region 8 with (go_at_call 24; refine (Put_any (ups i) i i p9 _ m9.tree (by omega)).mono ?_; rintro e w6 ⟨q9, rfl, hq9, hb6⟩; have e9' := (m9.below hb6).cell; have f9' := (m9.below hb6).fr)
      have n9 := (m9.below hb6).set hq9
      have n10 := (m10.below hb6).far (c := w.heap.size) (m9.below hb6).tag (by omega) (.pointer q9)
      have n11 := (m11.below hb6).far (c := w.heap.size) (m9.below hb6).tag (by omega) (.pointer q9)
      have hbb := (m9.below hb6).belowSet (hb.trans (hb6.mono hb.size)) (.pointer q9)
      generalize w6.setCell ⟨w.heap.size, 0, none⟩ (.pointer q9) = W7 at n9 n10 n11 hbb ⊢
      clear m9 m10 m11 e9 f9 e9' f9' hb6 hq9 hb
      have e10 := n10.cell
      have f10 := n10.fr
      go_upto_region 9 with (go_at_call 24; refine (Put_any (downs s i) (s - i) i p10 _ n10.tree (by omega)).mono ?_; rintro e w6 ⟨q10, rfl, hq10, hb6⟩; have e10' := (n10.below hb6).cell; have f10' := (n10.below hb6).fr)
      have k10 := (n10.below hb6).set hq10
      have k9 := (n9.below hb6).far (c := w.heap.size + 1) (n10.below hb6).tag (by omega) (.pointer q10)
      have k11 := (n11.below hb6).far (c := w.heap.size + 1) (n10.below hb6).tag (by omega) (.pointer q10)
      have hbk := (n10.below hb6).belowSet (hbb.trans (hb6.mono hbb.size)) (.pointer q10)
      generalize w6.setCell ⟨w.heap.size + 1, 0, none⟩ (.pointer q10) = W8 at k9 k10 k11 hbk ⊢
      clear n9 n10 n11 e10 f10 e10' f10' hb6 hq10 hbb
      have e11 := k11.cell
      have f11 := k11.fr
      have sOf : ∀ x, Below W8.heap.size W8 x → x.cell? ⟨w.heap.size + 1 + 1, 0, none⟩ = some (.pointer p11) ∧ x.frozen? ⟨w.heap.size + 1 + 1, 0, none⟩ = false := fun x hx => ⟨(k11.below hx).cell, (k11.below hx).fr⟩
      refine start_ (n := 9) (S := fun w' => w'.cell? ⟨w.heap.size + 1 + 1, 0, none⟩ = some (.pointer p11) ∧ w'.frozen? ⟨w.heap.size + 1 + 1, 0, none⟩ = false) (ds := [8]) #[false, false, false, false, false, false, false, false, false] (by kernel_rfl) rfl rfl (sOf _ (Below.drew (Below.refl _ _))) (fun hHeld => ?_)
      refine take_ (i := 0) (N := some 46) (v := ?_) (a' := ?_) #[true, false, false, false, false, false, false, false, false] rfl rfl (by kernel_rfl) (fun _ _ _ h => h) (Or.inl ⟨by rfl, ?_⟩) hHeld ?_ ?_
      rotate_left
      · rintro w' ⟨s0, s1⟩
        go_simp
        with_reducible rfl
      rotate_left
      · simp only [Act.put, List.setIfInBounds_toArray, List.set_cons_zero, List.set_cons_succ, i64_w, i32_w]
        rfl
      refine pure_ (i := 1) (N := some 47) (v := ?_) (a' := ?_) #[true, true, false, false, false, false, false, false, false] rfl rfl (by kernel_rfl) (fun _ _ _ h => h) (Or.inl ⟨by rfl, ?_⟩) ?_ ?_
      rotate_left
      · intro w'
        go_simp
        with_reducible rfl
      rotate_left
      · simp only [Act.put, List.setIfInBounds_toArray, List.set_cons_zero, List.set_cons_succ, i64_w, i32_w]
        rfl
      refine pure_ (i := 2) (N := some 48) (v := ?_) (a' := ?_) #[true, true, true, false, false, false, false, false, false] rfl rfl (by kernel_rfl) (fun _ _ _ h => h) (Or.inl ⟨by rfl, ?_⟩) ?_ ?_
      rotate_left
      · intro w'
        go_simp
        with_reducible rfl
      rotate_left
      · simp only [Act.put, List.setIfInBounds_toArray, List.set_cons_zero, List.set_cons_succ, i64_w, i32_w]
        rfl
      refine pure_ (i := 3) (N := some 49) (v := ?_) (a' := ?_) #[true, true, true, true, false, false, false, false, false] rfl rfl (by kernel_rfl) (fun _ _ _ h => h) (Or.inl ⟨by rfl, ?_⟩) ?_ ?_
      rotate_left
      · intro w'
        go_simp
        with_reducible rfl
      rotate_left
      · simp only [Act.put, List.setIfInBounds_toArray, List.set_cons_zero, List.set_cons_succ, i64_w, i32_w]
        rfl
      refine pure_ (i := 4) (N := some 50) (v := ?_) (a' := ?_) #[true, true, true, true, true, false, false, false, false] rfl rfl (by kernel_rfl) (fun _ _ _ h => h) (Or.inl ⟨by rfl, ?_⟩) ?_ ?_
      rotate_left
      · intro w'
        go_simp
        with_reducible rfl
      rotate_left
      · simp only [Act.put, List.setIfInBounds_toArray, List.set_cons_zero, List.set_cons_succ, i64_w, i32_w]
        rfl
      refine pure_ (i := 5) (N := some 51) (v := ?_) (a' := ?_) #[true, true, true, true, true, true, false, false, false] rfl rfl (by kernel_rfl) (fun _ _ _ h => h) (Or.inl ⟨by rfl, ?_⟩) ?_ ?_
      rotate_left
      · intro w'
        go_simp
        with_reducible rfl
      rotate_left
      · simp only [Act.put, List.setIfInBounds_toArray, List.set_cons_zero, List.set_cons_succ, i64_w, i32_w]
        rfl
      refine pure_ (i := 6) (N := some 52) (v := ?_) (a' := ?_) #[true, true, true, true, true, true, true, false, false] rfl rfl (by kernel_rfl) (fun _ _ _ h => h) (Or.inl ⟨by rfl, ?_⟩) ?_ ?_
      rotate_left
      · intro w'
        go_simp
        with_reducible rfl
      rotate_left
      · simp only [Act.put, List.setIfInBounds_toArray, List.set_cons_zero, List.set_cons_succ, i64_w, i32_w]
        rfl
      refine one_ (i := 7) (N := some 53) #[true, true, true, true, true, true, true, true, false] rfl rfl (by kernel_rfl) (by decide) (fun K hK => ?_)
      refine goes_ Try.func24 (by kernel_rfl) rfl #[.agg #[.pointer p11], .int .i64 ((i * st : Int).tmod s), .int .i64 i] (by rfl) rfl rfl (by (try simp only [List.map_toArray, List.map_cons, List.map_nil]); first | done | rfl) ?_
      refine (Put_any (wilds s st i) ((i * st : Int).tmod s) i p11 _ (k11.tree.later (Below.drew (Below.refl _ _))) (by omega)).mono ?_
      rintro e w9 ⟨q11, rfl, hq11, hb9⟩
      refine ⟨_, rfl, ?_⟩
      refine hK.out _ _ (sOf _ (Below.trans (Below.drew (Below.refl _ _)) hb9)) (fun hHeld => ?_)
      clear hK K
      refine norm_ (a' := ?_) ?_ ?_
      rotate_left
      · show Act.put _ (some 53) _ = _
        simp only [Act.put, List.setIfInBounds_toArray, List.set_cons_zero, List.set_cons_succ, i64_w, i32_w]
        rfl
      have hb9' : Below W8.heap.size W8 w9 := Below.trans (Below.drew (Below.refl _ _)) hb9
      have e11' := (k11.below hb9').cell
      have f11' := (k11.below hb9').fr
      refine last_ (i := 8) (N := none) #[true, true, true, true, true, true, true, true, true] rfl rfl (by kernel_rfl) (by decide) (fun K hK => ?_)
      refine skip_ (w1 := ?_) (by rfl) rfl ?_ ?_
      rotate_left
      · go_simp
        with_reducible rfl
      refine hK.out _ _ ?_
      clear hK K
      refine done_ (by kernel_rfl) ?_
      have j11 := (k11.below hb9').set hq11
      have j9 := (k9.below hb9').far (c := w.heap.size + 1 + 1) (k11.below hb9').tag (by omega) (.pointer q11)
      have j10 := (k10.below hb9').far (c := w.heap.size + 1 + 1) (k11.below hb9').tag (by omega) (.pointer q11)
      have hbj := (k11.below hb9').belowSet (hbk.trans (hb9'.mono hbk.size)) (.pointer q11)
      clear k9 k10 k11 e11 f11 e11' f11' hq11 sOf
      go_wp2
      go_roundg (s.toNat - (i + 1))
      case measure => have := HN.out; omega
      case rel => exact ⟨i + 1, rfl, by omega, hbj, ⟨_, j9⟩, ⟨_, j10⟩, ⟨_, j11⟩, rfl⟩
    · obtain ⟨N, hN⟩ : ∃ N : Nat, s = N := ⟨s.toNat, by omega⟩
      subst hN
      obtain rfl : i = N := by omega
      have zU := ups_size i
      obtain ⟨U, hU⟩ : ∃ U, U = ups i := ⟨_, rfl⟩
      obtain ⟨D, hD⟩ : ∃ D, D = downs i i := ⟨_, rfl⟩
      obtain ⟨V, hV⟩ : ∃ V, V = wilds i st i := ⟨_, rfl⟩
      have gD := downs_good i i
      have gV := wilds_good i st i
      have gU := ups_good i
      have lU := ups_list i
      rw [← hU] at m9 zU gU lU
      rw [← hD] at m10 gD
      rw [← hV] at m11 gV
      obtain ⟨bU, sU, -⟩ := gU
      obtain ⟨bD, sD, zD⟩ := gD
      obtain ⟨bV, sV, zV⟩ := gV
      have LU := Lib.hid lU
      clear hU hD hV lU HN hlt hi hst0 hst1
      have qU : U.size ≤ 1099511627776 := by omega
      have qD : D.size ≤ 1099511627776 := by omega
      have qV : V.size ≤ 1099511627776 := by omega
      have hk := Below.refl wr.heap.size wr
      have hne : ((U.size : Int) != (i : Int)) = false := by simp; omega
      have e9 := m9.cell
      have e10 := m10.cell
      have e11 := m11.cell
      go_upto_region 12 with (first
        | (go_at_call 17; (with_reducible refine (len_box m9 hk).mono ?_); rintro e x ⟨rfl, hk⟩; have e9 := (m9.below hk).cell)
        | (go_at_call 31; (with_reducible refine (bounded_box m9 bU qU hk).mono ?_); rintro e x ⟨rfl, hk⟩; have e9 := (m9.below hk).cell; have e10 := (m10.below hk).cell; have e11 := (m11.below hk).cell)
        | (go_at_call 31; (with_reducible refine (bounded_box m10 bD qD hk).mono ?_); rintro e x ⟨rfl, hk⟩; have e9 := (m9.below hk).cell; have e10 := (m10.below hk).cell; have e11 := (m11.below hk).cell)
        | (go_at_call 31; (with_reducible refine (bounded_box m11 bV qV hk).mono ?_); rintro e x ⟨rfl, hk⟩; have e9 := (m9.below hk).cell; have e10 := (m10.below hk).cell; have e11 := (m11.below hk).cell))
      have m9 := m9.below hk
      have m10 := m10.below hk
      have m11 := m11.below hk
      have hb := hb.trans (hk.mono hb.size)
      have hba := below_one x (.cells #[.pointer p9] 28)
      have m13 := MBox.new (n₀ := w.heap.size) (W := x) (p := p9) hb.size m9.tree
      have l13 : w.heap.size + 1 + 1 < x.heap.size := m11.lt
      have m9 := m9.below hba
      have m10 := m10.below hba
      have m11 := m11.below hba
      have hb := hb.trans (hba.mono hb.size)
      go_wp2_with fail
      generalize x.alloc (.cells #[.pointer p9] 28) = W2 at m9 m10 m11 m13 hb ⊢
      generalize x.heap.size = b13 at l13 m13 ⊢
      clear hba hk e9 e10 e11 qU hne
      go_loopg [14] len (fun k x14 wr => ∃ j : Nat, x14 = .int .i64 j ∧ j ≤ len ∧ j ≤ 40 ∧ Below w.heap.size w wr ∧ MBox w.heap.size wr w.heap.size p9 U ∧ MBox w.heap.size wr (w.heap.size + 1) p10 D ∧ MBox w.heap.size wr (w.heap.size + 1 + 1) p11 V ∧ (∃ p M, MBox w.heap.size wr b13 p M ∧ M.Bal ∧ Sorted M.toList ∧ M.size ≤ 3000 + 3100 * j) ∧ Hid (len - j = k))
      case atStart => exact ⟨0, rfl, by omega, by omega, hb, m9, m10, m11, ⟨p9, U, m13, bU, sU, by omega⟩, rfl⟩
      case round =>
        clear m9 m10 m11 m13 hb
        obtain ⟨j, rfl, hj, hj40, hb, m9, m10, m11, ⟨pm, M, m13, bM, sM, zM⟩, HN⟩ := hrel
        by_cases hlt : j < len
        · by_cases h40 : j < 40
          · have a1 : (j : Int) < (len : Int) := by omega
            have a2 : (j : Int) < 40 := by omega
            have a3 : (0 : Int) ≤ (j : Int) := by omega
            have a4 : IntKind.i64.wrap ((j : Int) + 1) = ((j + 1 : Nat) : Int) := by rw [IntKind.wrap_i64]; push_cast; omega
            rcases hcut with rfl | ⟨cb, co, rfl, hcb, hcc⟩
            · omega
            obtain ⟨c, hcell⟩ := hcc j hlt
            have e1 := (hb.cell (p := ⟨cb, co + j, none⟩) hcb).trans hcell
            have e13 := m13.cell
            have zM' : M.size ≤ 1099511627776 := by omega
            clear hcc hcell
            go_upto_region 18 with (go_at_call 32; refine (Split_any M (c.tmod (i : Int)) pm _ m13.tree zM').mono ?_; rintro e x ⟨pl, ph, rfl, hl, hh, hk⟩)
            obtain ⟨LO, hLO⟩ : ∃ X, X = (T.cut (c.tmod (i : Int)) M).1 := ⟨_, rfl⟩
            obtain ⟨HI, hHI⟩ : ∃ X, X = (T.cut (c.tmod (i : Int)) M).2.2 := ⟨_, rfl⟩
            have hz := cut_sizes (c.tmod (i : Int)) M
            have hbal := T.cut_bal (c.tmod (i : Int)) M bM
            have hsp := T.cut_spec (c.tmod (i : Int)) M sM
            have hsd := T.cut_sides (c.tmod (i : Int)) M sM
            rw [← hLO, ← hHI] at hz hbal hsp hsd
            rw [← hLO] at hl
            rw [← hHI] at hh
            obtain ⟨bLO, -, bHI⟩ := hbal
            obtain ⟨sLO, -, sHI, -, -⟩ := hsp
            have hcl := T.clash_false hsd
            have sJ := T.join_sorted sLO sHI hsd
            have bJ := T.merge_bal _ _ bLO bHI
            have zJ := T.merge_size LO HI
            clear hLO hHI hsd
            have m9 := m9.below hk
            have m10 := m10.below hk
            have m11 := m11.below hk
            have m13 := m13.below hk
            have hb := hb.trans (hk.mono hb.size)
            have hba := below_two x (.cells #[.pointer pl] 28) (.cells #[.pointer ph] 28)
            have m16 : MBox w.heap.size ((x.alloc (.cells #[.pointer pl] 28)).alloc (.cells #[.pointer ph] 28)) x.heap.size pl LO := (MBox.new (W := x) hb.size hl).below (below_one _ _)
            have m19 : MBox w.heap.size ((x.alloc (.cells #[.pointer pl] 28)).alloc (.cells #[.pointer ph] 28)) (x.heap.size + 1) ph HI := by
              have := MBox.new (n₀ := w.heap.size) (W := x.alloc (.cells #[.pointer pl] 28)) (by have := hb.size; simp; omega) (hh.later (below_one x (.cells #[.pointer pl] 28)))
              simpa using this
            have l16 : b13 < x.heap.size := m13.lt
            have m9 := m9.below hba
            have m10 := m10.below hba
            have m11 := m11.below hba
            have m13 := m13.below hba
            have hb := hb.trans (hba.mono hb.size)
            generalize (x.alloc (.cells #[.pointer pl] 28)).alloc (.cells #[.pointer ph] 28) = W3 at m9 m10 m11 m13 m16 m19 hb ⊢
            generalize x.heap.size = b16 at l16 m16 m19 ⊢
            clear hba hk hl hh e13
            have e16 := m16.cell
            have e19 := m19.cell
            go_upto_region 19 with (go_at_call 33; refine (Join_any LO HI pl ph _ m16.tree m19.tree (by omega)).mono ?_; rintro e x ⟨pj, ce, rfl, hk, ⟨-, rfl, hJ⟩ | ⟨hbad, -, -⟩⟩; rotate_left; exact absurd hbad (by rw [hcl]; decide))
            have m9 := m9.below hk
            have m10 := m10.below hk
            have m11 := m11.below hk
            have m13 := m13.below hk
            have m16 := m16.below hk
            have m19 := m19.below hk
            have hb := hb.trans (hk.mono hb.size)
            have hba := below_one x (.cells #[.pointer pj] 28)
            have m20 := MBox.new (n₀ := w.heap.size) (W := x) hb.size hJ
            have l20 : b16 + 1 < x.heap.size := m19.lt
            have m9 := m9.below hba
            have m10 := m10.below hba
            have m11 := m11.below hba
            have m13 := m13.below hba
            have m16 := m16.below hba
            have m19 := m19.below hba
            have hb := hb.trans (hba.mono hb.size)
            generalize x.alloc (.cells #[.pointer pj] 28) = W4 at m9 m10 m11 m13 m16 m19 m20 hb ⊢
            generalize x.heap.size = b20 at l20 m20 ⊢
            generalize T.merge LO HI = J at sJ bJ zJ m20
            clear hba hk hJ e16 e19 hcl
            have e16 := m16.cell
            have e19 := m19.cell
            have e20 := m20.cell
            have qLO : LO.size ≤ 1099511627776 := by omega
            have qHI : HI.size ≤ 1099511627776 := by omega
            have qJ : J.size ≤ 1099511627776 := by omega
            have hk := Below.refl W4.heap.size W4
            go_upto_region 21 with (first
              | (go_at_call 31; (with_reducible refine (bounded_box m16 bLO qLO hk).mono ?_); rintro e x ⟨rfl, hk⟩; have e16 := (m16.below hk).cell; have e19 := (m19.below hk).cell; have e20 := (m20.below hk).cell)
              | (go_at_call 31; (with_reducible refine (bounded_box m19 bHI qHI hk).mono ?_); rintro e x ⟨rfl, hk⟩; have e16 := (m16.below hk).cell; have e19 := (m19.below hk).cell; have e20 := (m20.below hk).cell)
              | (go_at_call 31; (with_reducible refine (bounded_box m20 bJ qJ hk).mono ?_); rintro e x ⟨rfl, hk⟩; have e16 := (m16.below hk).cell; have e19 := (m19.below hk).cell; have e20 := (m20.below hk).cell))
            have m9 := m9.below hk
            have m10 := m10.below hk
            have m11 := m11.below hk
            have m13 := m13.below hk
            have m20 := m20.below hk
            have hb := hb.trans (hk.mono hb.size)
            have e13 := m13.cell
            have f13 := m13.fr
            go_upto_region 22 with fail
            have n9 := m9.far m13.tag (by omega) (.pointer pj)
            have n10 := m10.far m13.tag (by omega) (.pointer pj)
            have n11 := m11.far m13.tag (by omega) (.pointer pj)
            have n13 := m13.set m20.tree
            have hbn := m13.belowSet hb (.pointer pj)
            generalize x.setCell ⟨b13, 0, none⟩ (.pointer pj) = W5 at n9 n10 n11 n13 hbn ⊢
            clear m9 m10 m11 m13 m20 m16 m19 hk e13 f13 e16 e19 e20 hb
            by_cases hmod : (j : Int) % 3 = 2
            · go_upto_region 23 with fail
              have zR := range_size_le (c.tmod (i : Int)) (wrap64 (c.tmod (i : Int) + wrap64 ((i : Int).tdiv 2))) V
              have zD2 := range_size_le 0 (c.tmod (i : Int)) D
              have zS := subtract_size_le (T.range (c.tmod (i : Int)) (wrap64 (c.tmod (i : Int) + wrap64 ((i : Int).tdiv 2))) V) J
              have sOf : ∀ x, Below W5.heap.size W5 x → x.cell? ⟨b13, 0, none⟩ = some (.pointer pj) ∧ x.cell? ⟨w.heap.size + 1 + 1, 0, none⟩ = some (.pointer p11) ∧ x.cell? ⟨w.heap.size + 1, 0, none⟩ = some (.pointer p10) := fun x hx => ⟨(n13.below hx).cell, (n11.below hx).cell, (n10.below hx).cell⟩
              refine start_ (n := 14) (S := fun w' => w'.cell? ⟨b13, 0, none⟩ = some (.pointer pj) ∧ w'.cell? ⟨w.heap.size + 1 + 1, 0, none⟩ = some (.pointer p11) ∧ w'.cell? ⟨w.heap.size + 1, 0, none⟩ = some (.pointer p10)) (ds := [13]) #[false, false, false, false, false, false, false, false, false, false, false, false, false, false] (by kernel_rfl) rfl rfl (sOf _ (Below.drew (Below.refl _ _))) (fun hHeld => ?_)
              refine take_ (i := 0) (N := some 125) (v := ?_) (a' := ?_) #[true, false, false, false, false, false, false, false, false, false, false, false, false, false] rfl rfl (by kernel_rfl) (fun _ _ _ h => h) (Or.inl ⟨by rfl, ?_⟩) hHeld ?_ ?_
              rotate_left
              · rintro w' ⟨s0, s1, s2⟩
                go_simp
                with_reducible rfl
              rotate_left
              · simp only [Act.put, List.setIfInBounds_toArray, List.set_cons_zero, List.set_cons_succ, i64_w, i32_w]
                rfl
              refine take_ (i := 1) (N := some 126) (v := ?_) (a' := ?_) #[true, true, false, false, false, false, false, false, false, false, false, false, false, false] rfl rfl (by kernel_rfl) (fun _ _ _ h => h) (Or.inl ⟨by rfl, ?_⟩) hHeld ?_ ?_
              rotate_left
              · rintro w' ⟨s0, s1, s2⟩
                go_simp
                with_reducible rfl
              rotate_left
              · simp only [Act.put, List.setIfInBounds_toArray, List.set_cons_zero, List.set_cons_succ, i64_w, i32_w]
                rfl
              refine pure_ (i := 2) (N := some 127) (v := ?_) (a' := ?_) #[true, true, true, false, false, false, false, false, false, false, false, false, false, false] rfl rfl (by kernel_rfl) (fun _ _ _ h => h) (Or.inl ⟨by rfl, ?_⟩) ?_ ?_
              rotate_left
              · intro w'
                go_simp
                with_reducible rfl
              rotate_left
              · simp only [Act.put, List.setIfInBounds_toArray, List.set_cons_zero, List.set_cons_succ, i64_w, i32_w]
                rfl
              refine pure_ (i := 3) (N := some 128) (v := ?_) (a' := ?_) #[true, true, true, true, false, false, false, false, false, false, false, false, false, false] rfl rfl (by kernel_rfl) (fun _ _ _ h => h) (Or.inl ⟨by rfl, ?_⟩) ?_ ?_
              rotate_left
              · intro w'
                go_simp
                with_reducible rfl
              rotate_left
              · simp only [Act.put, List.setIfInBounds_toArray, List.set_cons_zero, List.set_cons_succ, i64_w, i32_w]
                rfl
              refine pure_ (i := 4) (N := some 129) (v := ?_) (a' := ?_) #[true, true, true, true, true, false, false, false, false, false, false, false, false, false] rfl rfl (by kernel_rfl) (fun _ _ _ h => h) (Or.inl ⟨by rfl, ?_⟩) ?_ ?_
              rotate_left
              · intro w'
                go_simp
                with_reducible rfl
              rotate_left
              · simp only [Act.put, List.setIfInBounds_toArray, List.set_cons_zero, List.set_cons_succ, i64_w, i32_w]
                rfl
              refine pure_ (i := 5) (N := some 130) (v := ?_) (a' := ?_) #[true, true, true, true, true, true, false, false, false, false, false, false, false, false] rfl rfl (by kernel_rfl) (fun _ _ _ h => h) (Or.inl ⟨by rfl, ?_⟩) ?_ ?_
              rotate_left
              · intro w'
                go_simp
                with_reducible rfl
              rotate_left
              · simp only [Act.put, List.setIfInBounds_toArray, List.set_cons_zero, List.set_cons_succ, i64_w, i32_w]
                rfl
              refine pure_ (i := 6) (N := some 131) (v := ?_) (a' := ?_) #[true, true, true, true, true, true, true, false, false, false, false, false, false, false] rfl rfl (by kernel_rfl) (fun _ _ _ h => h) (Or.inl ⟨by rfl, ?_⟩) ?_ ?_
              rotate_left
              · intro w'
                go_simp
                with_reducible rfl
              rotate_left
              · simp only [Act.put, List.setIfInBounds_toArray, List.set_cons_zero, List.set_cons_succ, i64_w, i32_w]
                rfl
              refine take_ (i := 9) (N := some 134) (v := ?_) (a' := ?_) #[true, true, true, true, true, true, true, false, false, true, false, false, false, false] rfl rfl (by kernel_rfl) (fun _ _ _ h => h) (Or.inl ⟨by rfl, ?_⟩) hHeld ?_ ?_
              rotate_left
              · rintro w' ⟨s0, s1, s2⟩
                go_simp
                with_reducible rfl
              rotate_left
              · simp only [Act.put, List.setIfInBounds_toArray, List.set_cons_zero, List.set_cons_succ, i64_w, i32_w]
                rfl
              refine pure_ (i := 10) (N := some 135) (v := ?_) (a' := ?_) #[true, true, true, true, true, true, true, false, false, true, true, false, false, false] rfl rfl (by kernel_rfl) (fun _ _ _ h => h) (Or.inl ⟨by rfl, ?_⟩) ?_ ?_
              rotate_left
              · intro w'
                go_simp
                with_reducible rfl
              rotate_left
              · simp only [Act.put, List.setIfInBounds_toArray, List.set_cons_zero, List.set_cons_succ, i64_w, i32_w]
                rfl
              have hw0 : Below W5.heap.size W5 W5.drew := Below.drew (Below.refl _ _)
              refine one_ (i := 7) (N := some 132) #[true, true, true, true, true, true, true, true, false, true, true, false, false, false] rfl rfl (by kernel_rfl) (by decide) (fun K hK => ?_)
              refine goes_ Try.func36 (by kernel_rfl) rfl #[.agg #[.pointer p11], .int .i64 (c.tmod (i : Int)), .int .i64 (wrap64 (c.tmod (i : Int) + wrap64 ((i : Int).tdiv 2)))] (by rfl) rfl rfl (by (try simp only [List.map_toArray, List.map_cons, List.map_nil]); first | done | rfl) ?_
              refine (Range_any V (c.tmod (i : Int)) (wrap64 (c.tmod (i : Int) + wrap64 ((i : Int).tdiv 2))) p11 _ (n11.below hw0).tree (by omega)).mono ?_
              rintro e x1 ⟨pr, rfl, hr, k1⟩
              refine ⟨_, rfl, ?_⟩
              refine hK.out _ _ (sOf _ (Below.trans hw0 (k1.mono (Below.size hw0)))) (fun hHeld => ?_)
              clear hK K
              refine norm_ (a' := ?_) ?_ ?_
              rotate_left
              · show Act.put _ (some 132) _ = _
                simp only [Act.put, List.setIfInBounds_toArray, List.set_cons_zero, List.set_cons_succ, i64_w, i32_w]
                rfl
              have hw1 : Below W5.heap.size W5 x1 := Below.trans hw0 (k1.mono hw0.size)
              refine one_ (i := 8) (N := some 133) #[true, true, true, true, true, true, true, true, true, true, true, false, false, false] rfl rfl (by kernel_rfl) (by decide) (fun K hK => ?_)
              refine goes_ Try.func35 (by kernel_rfl) rfl #[.agg #[.pointer pj], .agg #[.pointer pr]] (by rfl) rfl rfl (by (try simp only [List.map_toArray, List.map_cons, List.map_nil]); first | done | rfl) ?_
              refine (Subtract_any J (T.range (c.tmod (i : Int)) (wrap64 (c.tmod (i : Int) + wrap64 ((i : Int).tdiv 2))) V) pj pr _ (n13.below hw1).tree hr (by omega)).mono ?_
              rintro e x2 ⟨ps, rfl, hs_, k2⟩
              refine ⟨_, rfl, ?_⟩
              refine hK.out _ _ (sOf _ (Below.trans hw1 (k2.mono (Below.size hw1)))) (fun hHeld => ?_)
              clear hK K
              refine norm_ (a' := ?_) ?_ ?_
              rotate_left
              · show Act.put _ (some 133) _ = _
                simp only [Act.put, List.setIfInBounds_toArray, List.set_cons_zero, List.set_cons_succ, i64_w, i32_w]
                rfl
              have hw2 : Below W5.heap.size W5 x2 := Below.trans hw1 (k2.mono hw1.size)
              refine one_ (i := 11) (N := some 136) #[true, true, true, true, true, true, true, true, true, true, true, true, false, false] rfl rfl (by kernel_rfl) (by decide) (fun K hK => ?_)
              refine goes_ Try.func36 (by kernel_rfl) rfl #[.agg #[.pointer p10], .int .i64 0, .int .i64 (c.tmod (i : Int))] (by rfl) rfl rfl (by (try simp only [List.map_toArray, List.map_cons, List.map_nil]); first | done | rfl) ?_
              refine (Range_any D 0 (c.tmod (i : Int)) p10 _ (n10.below hw2).tree (by omega)).mono ?_
              rintro e x3 ⟨pd, rfl, hd, k3⟩
              refine ⟨_, rfl, ?_⟩
              refine hK.out _ _ (sOf _ (Below.trans hw2 (k3.mono (Below.size hw2)))) (fun hHeld => ?_)
              clear hK K
              refine norm_ (a' := ?_) ?_ ?_
              rotate_left
              · show Act.put _ (some 136) _ = _
                simp only [Act.put, List.setIfInBounds_toArray, List.set_cons_zero, List.set_cons_succ, i64_w, i32_w]
                rfl
              have hw3 : Below W5.heap.size W5 x3 := Below.trans hw2 (k3.mono hw2.size)
              have hs_ := hs_.later k3
              refine one_ (i := 12) (N := some 137) #[true, true, true, true, true, true, true, true, true, true, true, true, true, false] rfl rfl (by kernel_rfl) (by decide) (fun K hK => ?_)
              refine goes_ Try.func34 (by kernel_rfl) rfl #[.agg #[.pointer ps], .agg #[.pointer pd]] (by rfl) rfl rfl (by (try simp only [List.map_toArray, List.map_cons, List.map_nil]); first | done | rfl) ?_
              refine (Union_any (T.subtract J (T.range (c.tmod (i : Int)) (wrap64 (c.tmod (i : Int) + wrap64 ((i : Int).tdiv 2))) V)) (T.range 0 (c.tmod (i : Int)) D) ps pd _ hs_ hd (by omega)).mono ?_
              rintro e x4 ⟨pu, rfl, hu, k4⟩
              refine ⟨_, rfl, ?_⟩
              refine hK.out _ _ (sOf _ (Below.trans hw3 (k4.mono hw3.size))) (fun hHeld => ?_)
              clear hK K
              refine norm_ (a' := ?_) ?_ ?_
              rotate_left
              · show Act.put _ (some 137) _ = _
                simp only [Act.put, List.setIfInBounds_toArray, List.set_cons_zero, List.set_cons_succ, i64_w, i32_w]
                rfl
              have hw4 : Below W5.heap.size W5 x4 := Below.trans hw3 (k4.mono hw3.size)
              have e13 := (n13.below hw4).cell
              have f13 := (n13.below hw4).fr
              refine last_ (i := 13) (N := none) #[true, true, true, true, true, true, true, true, true, true, true, true, true, true] rfl rfl (by kernel_rfl) (by decide) (fun K hK => ?_)
              refine skip_ (w1 := ?_) (by rfl) rfl ?_ ?_
              rotate_left
              · go_simp
                with_reducible rfl
              refine hK.out _ _ ?_
              clear hK K
              refine done_ (by kernel_rfl) ?_
              have m9 := (n9.below hw4).far (n13.below hw4).tag (by omega) (.pointer pu)
              have m10 := (n10.below hw4).far (n13.below hw4).tag (by omega) (.pointer pu)
              have m11 := (n11.below hw4).far (n13.below hw4).tag (by omega) (.pointer pu)
              have m13 := (n13.below hw4).set hu
              have hbm := (n13.below hw4).belowSet (hbn.trans (hw4.mono hbn.size)) (.pointer pu)
              generalize x4.setCell ⟨b13, 0, none⟩ (.pointer pu) = W6 at m9 m10 m11 m13 hbm ⊢
              have bX := T.union_bal (T.range 0 (c.tmod (i : Int)) D) (T.subtract J (T.range (c.tmod (i : Int)) (wrap64 (c.tmod (i : Int) + wrap64 ((i : Int).tdiv 2))) V)) (T.subtract_bal _ _ bJ (T.range_bal _ _ _ bV)) (T.range_bal _ _ _ bD)
              have sX := (T.union_spec (T.range 0 (c.tmod (i : Int)) D) (T.subtract J (T.range (c.tmod (i : Int)) (wrap64 (c.tmod (i : Int) + wrap64 ((i : Int).tdiv 2))) V)) (T.subtract_spec _ _ sJ (T.mem_range _ _ _ sV).1).1 (T.mem_range _ _ _ sD).1).1
              have zX := union_size_le (T.range 0 (c.tmod (i : Int)) D) (T.subtract J (T.range (c.tmod (i : Int)) (wrap64 (c.tmod (i : Int) + wrap64 ((i : Int).tdiv 2))) V))
              generalize T.union (T.subtract J (T.range (c.tmod (i : Int)) (wrap64 (c.tmod (i : Int) + wrap64 ((i : Int).tdiv 2))) V)) (T.range 0 (c.tmod (i : Int)) D) = X at m13 bX sX zX
              have n9 := m9
              have n10 := m10
              have n11 := m11
              have n13 := m13
              have hbn := hbm
              have zX : X.size ≤ 3000 + 3100 * (j + 1) := by omega
              clear m9 m10 m11 m13 hbm e13 f13 hu hs_ hd hr
              have e13 := n13.cell
              have qX : X.size ≤ 1099511627776 := by omega
              have hkr := Below.refl W6.heap.size W6
              go_wp2_with (go_at_call 31; refine (bounded_box n13 bX qX hkr).mono ?_; rintro e x ⟨rfl, hk⟩)
              go_roundg (len - (j + 1))
              case measure => have := HN.out; omega
              case rel => exact ⟨j + 1, rfl, by omega, by omega, hbn.trans (hk.mono hbn.size), n9.below hk, n10.below hk, n11.below hk, ⟨_, _, n13.below hk, bX, sX, zX⟩, rfl⟩
            · have hm2 : decide ((j : Int) % 3 = 2) = false := decide_eq_false hmod
              have hm3 : ((j : Int) % 3 == 2) = false := by simpa using hmod
              obtain ⟨X, hX⟩ : ∃ X, X = J := ⟨_, rfl⟩
              rw [← hX] at n13 bJ sJ zJ
              have bX := bJ
              have sX := sJ
              have zX : X.size ≤ 3000 + 3100 * (j + 1) := by omega
              obtain ⟨W6, hW6⟩ : ∃ W6, W6 = W5 := ⟨_, rfl⟩
              rw [← hW6] at n9 n10 n11 n13 hbn ⊢
              clear hW6

              have e13 := n13.cell
              have qX : X.size ≤ 1099511627776 := by omega
              have hkr := Below.refl W6.heap.size W6
              go_wp2_with (go_at_call 31; refine (bounded_box n13 bX qX hkr).mono ?_; rintro e x ⟨rfl, hk⟩)
              go_roundg (len - (j + 1))
              case measure => have := HN.out; omega
              case rel => exact ⟨j + 1, rfl, by omega, by omega, hbn.trans (hk.mono hbn.size), n9.below hk, n10.below hk, n11.below hk, ⟨_, _, n13.below hk, bX, sX, zX⟩, rfl⟩
          · have a1 : (j : Int) < (len : Int) := by omega
            have a2 : (40 : Int) ≤ (j : Int) := by omega
            clear m10 m11 m13 bM sM zM HN
            go_wp2_with fail
            go_loopg [22] i (fun k x22 wr => ∃ q : Nat, x22 = .int .i64 ((2 * q : Nat) : Int) ∧ Below w.heap.size w wr ∧ q ≤ 3000 ∧ (∃ p t, MBox w.heap.size wr w.heap.size p t ∧ t.Bal ∧ Sorted t.toList ∧ t.size ≤ 3000 ∧ Hid (t.toList = diag (fun x => x % 2 == 1 || decide (2 * q ≤ x)) i)) ∧ Hid (i - 2 * q = k))
            case atStart => exact ⟨0, rfl, hb, by omega, ⟨p9, U, m9, bU, sU, by omega, LU.out⟩, rfl⟩
            case round =>
              clear m9 hb
              obtain ⟨q, rfl, hb, hq, ⟨pt, t, m9, bt, st_, zt, HL⟩, HN⟩ := hrel
              have e9 := m9.cell
              have f9 := m9.fr
              by_cases hlt2 : 2 * q < i
              · have b1 : ((2 * q : Nat) : Int) < (i : Int) := by omega
                have b2 : IntKind.i64.wrap (((2 * q : Nat) : Int) + 2) = ((2 * (q + 1) : Nat) : Int) := by rw [IntKind.wrap_i64]; push_cast; omega
                have qt : t.size ≤ 1099511627776 := by omega
                go_upto_region 28 with (go_at_call 22; refine (Delete_any t ((2 * q : Nat) : Int) pt _ m9.tree qt).mono ?_; rintro e x hdel; obtain ⟨p', b', t', rfl, hk, ht', bt', st', zt', hmem⟩ := hdel.good bt st_; have e9 := (m9.below hk).cell; have f9 := (m9.below hk).fr)
                have n9 := (m9.below hk).set ht'
                have hbn := (m9.below hk).belowSet (hb.trans (hk.mono hb.size)) (.pointer p')
                have HL' : Hid (t'.toList = diag (fun x => x % 2 == 1 || decide (2 * (q + 1) ≤ x)) i) := del_list HL.out st' hmem
                generalize x.setCell ⟨w.heap.size, 0, none⟩ (.pointer p') = W9 at n9 hbn ⊢
                clear m9 hk ht' e9 f9 hb hmem
                go_wp2
                go_roundg (i - 2 * (q + 1))
                case measure => have := HN.out; omega
                case rel => exact ⟨q + 1, rfl, hbn, by omega, ⟨p', t', n9, bt', st', by omega, HL'⟩, rfl⟩
              · have b1 : (i : Int) ≤ ((2 * q : Nat) : Int) := by omega
                have ht := last_size HL.out (by omega)
                have qt : t.size ≤ 1099511627776 := by omega
                have HQ : Hid ((t.size : Int) = (i : Int) / 2) := by show (t.size : Int) = (i : Int) / 2; rw [ht]; push_cast; rfl
                have hkr := Below.refl wr.heap.size wr
                clear ht HL HN
                have e9 := m9.cell
                go_wp2_with (first
                  | (go_at_call 17; (with_reducible refine (len_box m9 hk).mono ?_); rintro e x ⟨rfl, hk⟩)
                  | (go_at_call 31; (with_reducible refine (bounded_box m9 bt qt hkr).mono ?_); rintro e x ⟨rfl, hk⟩; have e9 := (m9.below hk).cell)
                  | (go_at_call 13; refine (IS.alive_any _).mono ?_; rintro e x' ⟨rfl, hk'⟩))
                all_goals first
                  | (exfalso; have hq4 := HQ.out; omega)
                  | (go_ret; exact ⟨rfl, (hb.trans (hk.mono hb.size)).trans (hk'.mono (hb.trans (hk.mono hb.size)).size)⟩)
        · have a1 : (len : Int) ≤ (j : Int) := by omega
          clear m10 m11 m13 bM sM zM HN
          go_wp2_with fail
          go_loopg [22] i (fun k x22 wr => ∃ q : Nat, x22 = .int .i64 ((2 * q : Nat) : Int) ∧ Below w.heap.size w wr ∧ q ≤ 3000 ∧ (∃ p t, MBox w.heap.size wr w.heap.size p t ∧ t.Bal ∧ Sorted t.toList ∧ t.size ≤ 3000 ∧ Hid (t.toList = diag (fun x => x % 2 == 1 || decide (2 * q ≤ x)) i)) ∧ Hid (i - 2 * q = k))
          case atStart => exact ⟨0, rfl, hb, by omega, ⟨p9, U, m9, bU, sU, by omega, LU.out⟩, rfl⟩
          case round =>
            clear m9 hb
            obtain ⟨q, rfl, hb, hq, ⟨pt, t, m9, bt, st_, zt, HL⟩, HN⟩ := hrel
            have e9 := m9.cell
            have f9 := m9.fr
            by_cases hlt2 : 2 * q < i
            · have b1 : ((2 * q : Nat) : Int) < (i : Int) := by omega
              have b2 : IntKind.i64.wrap (((2 * q : Nat) : Int) + 2) = ((2 * (q + 1) : Nat) : Int) := by rw [IntKind.wrap_i64]; push_cast; omega
              have qt : t.size ≤ 1099511627776 := by omega
              go_upto_region 28 with (go_at_call 22; refine (Delete_any t ((2 * q : Nat) : Int) pt _ m9.tree qt).mono ?_; rintro e x hdel; obtain ⟨p', b', t', rfl, hk, ht', bt', st', zt', hmem⟩ := hdel.good bt st_; have e9 := (m9.below hk).cell; have f9 := (m9.below hk).fr)
              have n9 := (m9.below hk).set ht'
              have hbn := (m9.below hk).belowSet (hb.trans (hk.mono hb.size)) (.pointer p')
              have HL' : Hid (t'.toList = diag (fun x => x % 2 == 1 || decide (2 * (q + 1) ≤ x)) i) := del_list HL.out st' hmem
              generalize x.setCell ⟨w.heap.size, 0, none⟩ (.pointer p') = W9 at n9 hbn ⊢
              clear m9 hk ht' e9 f9 hb hmem
              go_wp2
              go_roundg (i - 2 * (q + 1))
              case measure => have := HN.out; omega
              case rel => exact ⟨q + 1, rfl, hbn, by omega, ⟨p', t', n9, bt', st', by omega, HL'⟩, rfl⟩
            · have b1 : (i : Int) ≤ ((2 * q : Nat) : Int) := by omega
              have ht := last_size HL.out (by omega)
              have qt : t.size ≤ 1099511627776 := by omega
              have HQ : Hid ((t.size : Int) = (i : Int) / 2) := by show (t.size : Int) = (i : Int) / 2; rw [ht]; push_cast; rfl
              have hkr := Below.refl wr.heap.size wr
              clear ht HL HN
              have e9 := m9.cell
              go_wp2_with (first
                | (go_at_call 17; (with_reducible refine (len_box m9 hk).mono ?_); rintro e x ⟨rfl, hk⟩)
                | (go_at_call 31; (with_reducible refine (bounded_box m9 bt qt hkr).mono ?_); rintro e x ⟨rfl, hk⟩; have e9 := (m9.below hk).cell)
                | (go_at_call 13; refine (IS.alive_any _).mono ?_; rintro e x' ⟨rfl, hk'⟩))
              all_goals first
                | (exfalso; have hq4 := HQ.out; omega)
                | (go_ret; exact ⟨rfl, (hb.trans (hk.mono hb.size)).trans (hk'.mono (hb.trans (hk.mono hb.size)).size)⟩)
end Go.Proofs.MT.II
