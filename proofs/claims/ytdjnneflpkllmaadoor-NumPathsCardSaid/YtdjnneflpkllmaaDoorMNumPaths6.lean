/- The law NumPaths answers true whatever its arguments: they are opened, the walk is called, they are shut. -/
import Derived.Test.YtdjnneflpkllmaaDoorMNumPaths5
import Derived.BigRegion
import Derived.LoopN
import Derived.Lib.Hide
import Derived.Deep.DeepAppendWide
import Derived.RangeFuncBox
import Derived.Shelf.Strings.Repeat
import Derived.Test.YtdjnneflpkllmaaDoorTie
import Derived.Test.YtdjnneflpkllmaaDoorCards
import Derived.SevenTiedAt

namespace Go.Proofs.YtdjnneflpkllmaaDoor.Q
open Go.RowKit Go.Proofs.YtdjnneflpkllmaaDoorW.PrintWords Go.Proofs.YtdjnneflpkllmaaDoorW.PrintLast Go.Proofs.YtdjnneflpkllmaaDoorW.PrintMore
attribute [local go_sem] max2_int min2_int max_two min_two max_three min_three max_four min_four   -- for this text's walks alone
set_option linter.unusedVariables false
set_option linter.unusedSimpArgs false
mutual
def merinoref01_FromPath.j0 : Nat → List Int → Bool → Option (Int × Int × Int)
  | 0, _, _ => none
  | k + 1, x0, x28 => if x28 = true then (some (0, 0, 2)) else (merinoref01_FromPath.l0 k x0 1)
def merinoref01_FromPath.l0 : Nat → List Int → Int → Option (Int × Int × Int)
  | 0, _, _ => none
  | k + 1, x0, x4 => if x4 < (x0.length : Int) then (if 0 ≤ x4 then (if (rd x0 x4) < 1 then (some (0, 0, 2)) else (merinoref01_FromPath.l0 k x0 (wrap64 (x4 + 1)))) else (none)) else (if 0 ≤ (wrap64 ((x0.length : Int) - 1)) then (if (wrap64 ((x0.length : Int) - 1)) < (x0.length : Int) then ((merinoref01_Of.f k (rd x0 (wrap64 ((x0.length : Int) - 1)))).bind fun bt645 => ((merinoref01_Of.f k 1).bind fun bt649 => (merinoref01_FromPath.l1 k x0 (wrap64 ((x0.length : Int) - 2)) bt645.1 bt645.2 bt649.1 bt649.2))) else (none)) else (none))
def merinoref01_FromPath.l1 : Nat → List Int → Int → Bool → List Int → Bool → List Int → Option (Int × Int × Int)
  | 0, _, _, _, _, _, _ => none
  | k + 1, x0, x7, x654000, x654001, x655000, x655001 => if x7 ≥ 0 then (if 0 ≤ x7 then (if x7 < (x0.length : Int) then ((merinoref01_Of.f k (rd x0 x7)).bind fun bt656 => ((merinoref01_Times.f k bt656.1 bt656.2 x654000 x654001).bind fun bt660 => ((merinoref01_Plus.f k bt660.1 bt660.2 x655000 x655001).bind fun bt664 => (merinoref01_FromPath.l1 k x0 (wrap64 (x7 - 1)) bt664.1 bt664.2 x654000 x654001)))) else (none)) else (none)) else ((merinoref01_Lowest.f k x654000 x654001 x655000 x655001).bind fun bt668 => (some (bt668.1, bt668.2.1, bt668.2.2)))
end
def merinoref01_FromPath.f (k : Nat) (l0 : List Int) : Option (Int × Int × Int) := if (l0.length : Int) > 64 then (some (0, 0, 3)) else (if (l0.length : Int) = 0 then (merinoref01_FromPath.j0 k l0 true) else (if (l0.length : Int) > 1 then (if 0 ≤ (wrap64 ((l0.length : Int) - 1)) then (if (wrap64 ((l0.length : Int) - 1)) < (l0.length : Int) then (merinoref01_FromPath.j0 k l0 ((rd l0 (wrap64 ((l0.length : Int) - 1))) == 1)) else (none)) else (none)) else (merinoref01_FromPath.j0 k l0 false)))
theorem merinoref01_FromPath.mono_l : ∀ k, (∀ y0 y1, LeO (merinoref01_FromPath.j0 k y0 y1) (merinoref01_FromPath.j0 (k + 1) y0 y1)) ∧ (∀ y0 y1, LeO (merinoref01_FromPath.l0 k y0 y1) (merinoref01_FromPath.l0 (k + 1) y0 y1)) ∧ (∀ y0 y1 y2 y3 y4 y5, LeO (merinoref01_FromPath.l1 k y0 y1 y2 y3 y4 y5) (merinoref01_FromPath.l1 (k + 1) y0 y1 y2 y3 y4 y5))
  | 0 => ⟨fun _ _ r h => by simp [merinoref01_FromPath.j0] at h, fun _ _ r h => by simp [merinoref01_FromPath.l0] at h, fun _ _ _ _ _ _ r h => by simp [merinoref01_FromPath.l1] at h⟩
  | k + 1 => by
    obtain ⟨ih0, ih1, ih2⟩ := merinoref01_FromPath.mono_l k
    refine ⟨?_, ?_, ?_⟩
    · intro y0 y1
      unfold merinoref01_FromPath.j0
      repeat' first
      | (with_reducible exact ih0 _ _)
      | (with_reducible exact ih1 _ _)
      | (with_reducible exact ih2 _ _ _ _ _ _)
      | (with_reducible exact merinoref01_Lowest.mono _ _ _ _ _)
      | (with_reducible exact merinoref01_Of.mono _ _)
      | (with_reducible exact merinoref01_Plus.mono _ _ _ _ _)
      | (with_reducible exact merinoref01_Times.mono _ _ _ _ _)
      | (with_reducible exact LeO.refl _)
      | (with_reducible exact LeO.none _)
      | (with_reducible refine LeO.ite ?_ ?_)
      | (with_reducible refine LeO.bind ?_ (fun _ => ?_))
      | exact ih0 _ _
      | exact ih1 _ _
      | exact ih2 _ _ _ _ _ _
      | exact merinoref01_Lowest.mono _ _ _ _ _
      | exact merinoref01_Of.mono _ _
      | exact merinoref01_Plus.mono _ _ _ _ _
      | exact merinoref01_Times.mono _ _ _ _ _
      | exact LeO.none _
      | refine LeO.ite ?_ ?_
      | refine LeO.bind ?_ (fun _ => ?_)
    · intro y0 y1
      unfold merinoref01_FromPath.l0
      repeat' first
      | (with_reducible exact ih0 _ _)
      | (with_reducible exact ih1 _ _)
      | (with_reducible exact ih2 _ _ _ _ _ _)
      | (with_reducible exact merinoref01_Lowest.mono _ _ _ _ _)
      | (with_reducible exact merinoref01_Of.mono _ _)
      | (with_reducible exact merinoref01_Plus.mono _ _ _ _ _)
      | (with_reducible exact merinoref01_Times.mono _ _ _ _ _)
      | (with_reducible exact LeO.refl _)
      | (with_reducible exact LeO.none _)
      | (with_reducible refine LeO.ite ?_ ?_)
      | (with_reducible refine LeO.bind ?_ (fun _ => ?_))
      | exact ih0 _ _
      | exact ih1 _ _
      | exact ih2 _ _ _ _ _ _
      | exact merinoref01_Lowest.mono _ _ _ _ _
      | exact merinoref01_Of.mono _ _
      | exact merinoref01_Plus.mono _ _ _ _ _
      | exact merinoref01_Times.mono _ _ _ _ _
      | exact LeO.none _
      | refine LeO.ite ?_ ?_
      | refine LeO.bind ?_ (fun _ => ?_)
    · intro y0 y1 y2 y3 y4 y5
      unfold merinoref01_FromPath.l1
      repeat' first
      | (with_reducible exact ih0 _ _)
      | (with_reducible exact ih1 _ _)
      | (with_reducible exact ih2 _ _ _ _ _ _)
      | (with_reducible exact merinoref01_Lowest.mono _ _ _ _ _)
      | (with_reducible exact merinoref01_Of.mono _ _)
      | (with_reducible exact merinoref01_Plus.mono _ _ _ _ _)
      | (with_reducible exact merinoref01_Times.mono _ _ _ _ _)
      | (with_reducible exact LeO.refl _)
      | (with_reducible exact LeO.none _)
      | (with_reducible refine LeO.ite ?_ ?_)
      | (with_reducible refine LeO.bind ?_ (fun _ => ?_))
      | exact ih0 _ _
      | exact ih1 _ _
      | exact ih2 _ _ _ _ _ _
      | exact merinoref01_Lowest.mono _ _ _ _ _
      | exact merinoref01_Of.mono _ _
      | exact merinoref01_Plus.mono _ _ _ _ _
      | exact merinoref01_Times.mono _ _ _ _ _
      | exact LeO.none _
      | refine LeO.ite ?_ ?_
      | refine LeO.bind ?_ (fun _ => ?_)
theorem merinoref01_FromPath.mono : ∀ a0 k, LeO (merinoref01_FromPath.f k a0) (merinoref01_FromPath.f (k + 1) a0) := by
  intro a0 k
  obtain ⟨ih0, ih1, ih2⟩ := merinoref01_FromPath.mono_l k
  unfold merinoref01_FromPath.f
  repeat' first
      | (with_reducible exact ih0 _ _)
      | (with_reducible exact ih1 _ _)
      | (with_reducible exact ih2 _ _ _ _ _ _)
      | (with_reducible exact merinoref01_Lowest.mono _ _ _ _ _)
      | (with_reducible exact merinoref01_Of.mono _ _)
      | (with_reducible exact merinoref01_Plus.mono _ _ _ _ _)
      | (with_reducible exact merinoref01_Times.mono _ _ _ _ _)
      | (with_reducible exact LeO.refl _)
      | (with_reducible exact LeO.none _)
      | (with_reducible refine LeO.ite ?_ ?_)
      | (with_reducible refine LeO.bind ?_ (fun _ => ?_))
      | exact ih0 _ _
      | exact ih1 _ _
      | exact ih2 _ _ _ _ _ _
      | exact merinoref01_Lowest.mono _ _ _ _ _
      | exact merinoref01_Of.mono _ _
      | exact merinoref01_Plus.mono _ _ _ _ _
      | exact merinoref01_Times.mono _ _ _ _ _
      | exact LeO.none _
      | refine LeO.ite ?_ ?_
      | refine LeO.bind ?_ (fun _ => ?_)
def merinoref01_FromPath.T14 : Bool × List (List Nat × List Nat) := (true, [([], []), ([], []), ([0, 1], [0, 1]), ([2], [2]), ([3], [3]), ([], []), ([4, 5, 4], [4, 5]), ([], []), ([6, 7, 6], [6, 7]), ([], []), ([8, 8, 0, 1, 2, 3, 4, 5, 6, 7, 8, 9], [8]), ([9, 10, 0, 1, 2, 3, 4, 5, 6, 7, 8, 9, 10], [9])])
def merinoref01_FromPath.B14 : List Nat := [0, 0, 3, 7, 15, 0, 63, 0, 255, 0, 1023, 2047]
theorem merinoref01_FromPath.tab14 : rtab .any (opsOf Tryd.f40 14) = merinoref01_FromPath.T14 := by kernel_rfl
theorem merinoref01_FromPath.bits14 : waitsOk merinoref01_FromPath.T14.2 merinoref01_FromPath.B14 = true := by kernel_rfl
set_option maxHeartbeats 8000000 in
set_option maxRecDepth 100000 in
theorem merinoref01_FromPath.calls (k : Nat) (A0 : Option Addr) (c0 : Nat) (l0 : List Int) (r1 : Int) (r2 : Int) (r3 : Int) (w : World) (hr0 : Kd.C (Kd.int .i64) w A0 l0.length l0) (hc0 : l0.length ≤ c0) (h : merinoref01_FromPath.f k l0 = some (r1, r2, r3)) :
    Calls Tryd.prog 40 #[.slice A0 l0.length c0] w fun e w' => e = .returned (.tuple #[.agg #[.int .i64 r1, .int .i64 r2], .int .i64 r3]) ∧ Below w.heap.size w w' := by
  have hu23 := Tryd.underlying23
  have hu31 := Tryd.underlying31
  have HR0 := Aside0.mk hr0
  have HC0 := Aside0.mk hc0
  clear hr0 hc0
  have HB := Aside0.mk (Below.refl w.heap.size w)
  have H : (if (l0.length : Int) > 64 then (some (0, 0, 3)) else (if (l0.length : Int) = 0 then (merinoref01_FromPath.j0 k l0 true) else (if (l0.length : Int) > 1 then (if 0 ≤ (wrap64 ((l0.length : Int) - 1)) then (if (wrap64 ((l0.length : Int) - 1)) < (l0.length : Int) then (merinoref01_FromPath.j0 k l0 ((rd l0 (wrap64 ((l0.length : Int) - 1))) == 1)) else (none)) else (none)) else (merinoref01_FromPath.j0 k l0 false)))) = some (r1, r2, r3) := h
  clear h
  by_cases c2 : (l0.length : Int) > 64
  · rw [if_pos c2] at H
    have c2b0 : decide (64 < (l0.length : Int)) = true := decide_eq_true c2
    have c2b1 : decide (64 < l0.length) = true := decide_eq_true (by omega)
    clear c2
    simp only [Option.some.injEq, Prod.mk.injEq] at H
    obtain ⟨rfl, rfl, rfl⟩ := H
    go_enter Tryd.func40, Tryd.ntmps40
    go_wp2_with (first | ((with_reducible refine gate_dst (N := 2) rfl ?_); (try (refine gate_guard (by rfl) ?_; dsimp only)); refine box_event ?hg (N := 2) ?hd (cs := #[.int .i64 0, .int .i64 0]) (t := 23) ?hr ?_; (case hd => rfl); (case hg => rfl); (case hr => first | (go_simp; done) | (go_simp; rfl)); intro gb641 hg w3 hbox hb; have n0_ := Aside0.mk (below_step (by repeat (first | (with_reducible first | exact HB.out | apply below_alloc | apply pw_below_drewN | apply below_drew1) | exact HB.out)) hb); have n1_ := Aside0.mk (hbox); have n2_ := Aside0.mk ((by rw [hg]; exact (below_size (by repeat (first | (with_reducible first | exact HB.out | apply below_alloc | apply pw_below_drewN | apply below_drew1) | exact HB.out))) : w.heap.size ≤ gb641)); have n3_ := Aside0.mk ((by rw [hg]; exact (below_size (by repeat (first | (with_reducible first | exact HB.out | apply below_alloc | apply pw_below_drewN | apply below_drew1) | exact HB.out))) : w.heap.size ≤ gb641)); clear HB; have HB := n0_; have BK641 := n1_; have GW641 := n2_; have GE641 := n3_; clear n0_ n1_ n2_ n3_; clear hb hbox hg; have hcz4_0 : w3.cell? ⟨gb641, 0, none⟩ = some (.int .i64 0) := (blk_cell BK641.out 0).trans rfl; have hcz4_1 : w3.cell? ⟨gb641, 1, none⟩ = some (.int .i64 0) := (blk_cell BK641.out 1).trans rfl; have hfz4_0 := blk_frozen BK641.out 0; have hfz4_1 := blk_frozen BK641.out 1))
    refine bodyPost_ret (results_ct rfl _ _ gb641 23 #[.int .i64 0, .int .i64 0] (0, 0) _ rfl (by (with_reducible repeat (first | refine blk_drewN ?_ _ | refine blk_drew ?_ | refine blk_alloc ?_ _)); refine blk_put (cs := #[.int .i64 0, .int .i64 0]) ?_ 1 _ rfl; (with_reducible repeat (first | refine blk_drewN ?_ _ | refine blk_drew ?_ | refine blk_alloc ?_ _)); refine blk_put (cs := #[.int .i64 0, .int .i64 0]) ?_ 0 _ rfl; (with_reducible repeat (first | refine blk_drewN ?_ _ | refine blk_drew ?_ | refine blk_alloc ?_ _)); exact BK641.out) Tryd.underlying23 rfl (by kernel_rfl)) rfl ?_
    exact ⟨by first | rfl | (simp [errW_none, errW_some] <;> rfl) | (simp [*, errW_none, errW_some] <;> rfl), by repeat (first | (with_reducible first | exact HB.out | apply below_alloc | apply pw_below_drewN | apply below_drew1 | refine below_set ?_ GE641.out) | exact HB.out)⟩
  · rw [if_neg c2] at H
    have c2b0 : decide (64 < (l0.length : Int)) = false := decide_eq_false c2
    have c2b1 : decide (64 < l0.length) = false := decide_eq_false (by omega)
    clear c2
    have HC5 := Aside0.mk H
    clear H
    go_enter Tryd.func40, Tryd.ntmps40
    go_upto_region 3 with (first | ((with_reducible refine gate_dst (N := 2) rfl ?_); (try (refine gate_guard (by rfl) ?_; dsimp only)); refine box_event ?hg (N := 2) ?hd (cs := #[.int .i64 0, .int .i64 0]) (t := 23) ?hr ?_; (case hd => rfl); (case hg => rfl); (case hr => first | (go_simp; done) | (go_simp; rfl)); intro gb641 hg w6 hbox hb; have n0_ := Aside0.mk (below_step (by repeat (first | (with_reducible first | exact HB.out | apply below_alloc | apply pw_below_drewN | apply below_drew1) | exact HB.out)) hb); have n1_ := Aside0.mk (hbox); have n2_ := Aside0.mk ((by rw [hg]; exact (below_size (by repeat (first | (with_reducible first | exact HB.out | apply below_alloc | apply pw_below_drewN | apply below_drew1) | exact HB.out))) : w.heap.size ≤ gb641)); have n3_ := Aside0.mk ((by rw [hg]; exact (below_size (by repeat (first | (with_reducible first | exact HB.out | apply below_alloc | apply pw_below_drewN | apply below_drew1) | exact HB.out))) : w.heap.size ≤ gb641)); clear HB; have HB := n0_; have BK641 := n1_; have GW641 := n2_; have GE641 := n3_; clear n0_ n1_ n2_ n3_; clear hb hbox hg))
    (try simp only [Act.put, List.setIfInBounds_toArray, List.set_cons_zero, List.set_cons_succ])
    go_cut [28] (fun v28 wc => ∃ (kq : Nat) (x28_4 : Bool), v28 = .bool x28_4 ∧ Aside0 (merinoref01_FromPath.j0 kq l0 x28_4 = some (r1, r2, r3)) ∧ Aside0 (kq ≤ k) ∧ Aside0 (wc.heap[gb641]? = some (.cells #[.int .i64 0, .int .i64 0] 23 (0, 0))) ∧ Aside0 (Below w.heap.size w wc))
    case first =>
      have H := HC5.out
      clear HC5
      by_cases c7 : (l0.length : Int) = 0
      · rw [if_pos c7] at H
        have c7b0 : ((l0.length : Int) == 0) = true := beq_iff_eq.mpr c7
        have c7b1 : ((l0.length : Int) != 0) = false := bne_eq_false_iff_eq.mpr c7
        clear c7
        (first | rw [c7b0] | (simp only [i64_w, i32_w]; rw [c7b0]) | skip)
        have H' := Aside0.mk H
        clear H
        go_wp2
        go_meet
        case rel => exact ⟨_, (true), (by first | rfl | (simp; done) | (simp [*]; done)), H', ⟨by first | omega | exact Nat.le_refl _⟩, ⟨by (with_reducible repeat (first | refine blk_drewN ?_ _ | refine blk_drew ?_ | refine blk_alloc ?_ _)); exact BK641.out⟩, ⟨by repeat (first | (with_reducible first | exact HB.out | apply below_alloc | apply pw_below_drewN | apply below_drew1 | refine below_set ?_ GE641.out) | exact HB.out)⟩⟩
      · rw [if_neg c7] at H
        have c7b0 : ((l0.length : Int) == 0) = false := beq_eq_false_iff_ne.mpr c7
        have c7b1 : ((l0.length : Int) != 0) = true := bne_iff_ne.mpr c7
        have c7b2 : ¬ (l0 = []) := fun h_ => c7 (by rw [h_]; rfl)
        (first | rw [c7b0] | (simp only [i64_w, i32_w]; rw [c7b0]) | skip)
        by_cases c8 : (l0.length : Int) > 1
        · rw [if_pos c8] at H
          have c8b0 : decide (1 < (l0.length : Int)) = true := decide_eq_true c8
          have c8b1 : decide (1 < l0.length) = true := decide_eq_true (by omega)
          clear c8
          obtain ⟨ji9, hji9⟩ : ∃ j_ : Int, (wrap64 ((l0.length : Int) - 1)) = j_ := ⟨_, rfl⟩
          replace H : (if 0 ≤ (ji9) then (if (ji9) < (l0.length : Int) then (merinoref01_FromPath.j0 k l0 ((rd l0 (ji9)) == 1)) else (none)) else (none)) = some (r1, r2, r3) := by first | (rw [hji9] at H; exact H) | (simp only [hji9] at H ⊢; exact H)
          have hji9w : (IntKind.i64.wrap ((l0.length : Int) - 1)) = ji9 := (i64_w _).trans hji9
          by_cases c10 : 0 ≤ (ji9)
          · rw [if_pos c10] at H
            have c10b0 : decide (0 ≤ (ji9)) = true := decide_eq_true c10
            clear c10
            by_cases c11 : (ji9) < (l0.length : Int)
            · rw [if_pos c11] at H
              have c11b0 : decide ((ji9) < (l0.length : Int)) = true := decide_eq_true c11
              clear c11
              have H' := Aside0.mk H
              clear H
              have p642 : 0 ≤ ((ji9) : Int) := of_decide_eq_true (by first | (with_reducible assumption) | assumption)
              have q642 : (ji9) < (l0.length : Int) := of_decide_eq_true (by first | (with_reducible assumption) | assumption)
              obtain ⟨ad642, e642, hx642_0⟩ := Kd.at_int HR0.out (ji9) p642 q642
              cases e642
              replace hx642_0 := (HB.out.cell (World.block_lt_of_cell? w _ hx642_0)).trans hx642_0
              replace p642 := eq_true p642
              replace q642 := eq_true q642
              go_wp2
              go_meet
              case rel => exact ⟨_, (((rd l0 (ji9)) == 1)), (by first | rfl | (simp; done) | (simp only [← hji9] <;> (first | rfl | simp)) | (simp [*]; done)), H', ⟨by first | omega | exact Nat.le_refl _⟩, ⟨by (with_reducible repeat (first | refine blk_drewN ?_ _ | refine blk_drew ?_ | refine blk_alloc ?_ _)); exact BK641.out⟩, ⟨by repeat (first | (with_reducible first | exact HB.out | apply below_alloc | apply pw_below_drewN | apply below_drew1 | refine below_set ?_ GE641.out) | exact HB.out)⟩⟩
            · rw [if_neg c11] at H
              exact absurd H (by simp)
          · rw [if_neg c10] at H
            exact absurd H (by simp)
        · rw [if_neg c8] at H
          have c8b0 : decide (1 < (l0.length : Int)) = false := decide_eq_false c8
          have c8b1 : decide (1 < l0.length) = false := decide_eq_false (by omega)
          clear c8
          have H' := Aside0.mk H
          clear H
          go_wp2
          go_meet
          case rel => exact ⟨_, (false), (by first | rfl | (simp; done) | (simp [*]; done)), H', ⟨by first | omega | exact Nat.le_refl _⟩, ⟨by (with_reducible repeat (first | refine blk_drewN ?_ _ | refine blk_drew ?_ | refine blk_alloc ?_ _)); exact BK641.out⟩, ⟨by repeat (first | (with_reducible first | exact HB.out | apply below_alloc | apply pw_below_drewN | apply below_drew1 | refine below_set ?_ GE641.out) | exact HB.out)⟩⟩
    case rest =>
      clear HC5
      try clear c1
      try clear c2
      try clear c2b0
      try clear c2b1
      try clear p2
      try clear c4
      try clear p6
      try clear q6
      try clear hx6
      try clear c7
      try clear c7b0
      try clear c7b1
      try clear c7b2
      try clear c8
      try clear c8b0
      try clear c8b1
      try clear c10
      try clear c10b0
      try clear c11
      try clear c11b0
      try clear hcz4_0
      try clear hcz4_1
      try clear hfz4_0
      try clear hfz4_1
      try clear hx642_0
      try clear p642
      try clear q642
      obtain ⟨kq, x28_4, rfl, HA, HJ4, BK641, HB⟩ := hcut
      cases kq with
      | zero => exact absurd HA.out (by simp [merinoref01_FromPath.j0])
      | succ kj4 =>
        have H := HA.out
        clear HA
        simp only [merinoref01_FromPath.j0] at H
        by_cases c12 : x28_4 = true
        · subst c12
          have H1 : (some (0, 0, 2)) = some (r1, r2, r3) := by rw [if_pos rfl] at H; exact H
          clear H
          have H := H1
          clear H1
          simp only [Option.some.injEq, Prod.mk.injEq] at H
          obtain ⟨rfl, rfl, rfl⟩ := H
          have hcz13_0 : wc.cell? ⟨gb641, 0, none⟩ = some (.int .i64 0) := (blk_cell BK641.out 0).trans rfl
          have hcz13_1 : wc.cell? ⟨gb641, 1, none⟩ = some (.int .i64 0) := (blk_cell BK641.out 1).trans rfl
          have hfz13_0 := blk_frozen BK641.out 0
          have hfz13_1 := blk_frozen BK641.out 1
          go_wp2
          refine bodyPost_ret (results_ct rfl _ _ gb641 23 #[.int .i64 0, .int .i64 0] (0, 0) _ rfl (by (with_reducible repeat (first | refine blk_drewN ?_ _ | refine blk_drew ?_ | refine blk_alloc ?_ _)); refine blk_put (cs := #[.int .i64 0, .int .i64 0]) ?_ 1 _ rfl; (with_reducible repeat (first | refine blk_drewN ?_ _ | refine blk_drew ?_ | refine blk_alloc ?_ _)); refine blk_put (cs := #[.int .i64 0, .int .i64 0]) ?_ 0 _ rfl; (with_reducible repeat (first | refine blk_drewN ?_ _ | refine blk_drew ?_ | refine blk_alloc ?_ _)); exact BK641.out) Tryd.underlying23 rfl (by kernel_rfl)) rfl ?_
          exact ⟨by first | rfl | (simp [errW_none, errW_some] <;> rfl) | (simp [*, errW_none, errW_some] <;> rfl), by repeat (first | (with_reducible first | exact HB.out | apply below_alloc | apply pw_below_drewN | apply below_drew1 | refine below_set ?_ GE641.out) | exact HB.out)⟩
        · replace c12 := Bool.eq_false_iff.mpr c12
          subst c12
          have H1 : (merinoref01_FromPath.l0 kj4 l0 1) = some (r1, r2, r3) := by rw [if_neg (show ¬ (false = true) by decide)] at H; exact H
          clear H
          have H := H1
          clear H1
          have H' := Aside0.mk H
          clear H
          go_wp2
          go_loopg [4] kj4 (fun kq v4 w' => ∃ (x4_2 : Int) (x642000_2 : Int) (x642001_2 : Int), v4 = .int .i64 x4_2 ∧ Aside0 (merinoref01_FromPath.l0 kq l0 x4_2 = some (r1, r2, r3)) ∧ Aside0 (kq ≤ kj4) ∧ Aside0 (w'.heap[gb641]? = some (.cells #[.int .i64 x642000_2, .int .i64 x642001_2] 23 (0, 0))) ∧ Aside0 (Below w.heap.size w w'))
          case atStart => exact ⟨(1), (0), (0), (by first | rfl | (simp; done) | (simp [*]; done)), H', ⟨Nat.le_refl _⟩, ⟨by (with_reducible repeat (first | refine blk_drewN ?_ _ | refine blk_drew ?_ | refine blk_alloc ?_ _)); exact BK641.out⟩, ⟨by repeat (first | (with_reducible first | exact HB.out | apply below_alloc | apply pw_below_drewN | apply below_drew1 | refine below_set ?_ GE641.out) | exact HB.out)⟩⟩
          case round =>
            clear H'
            try clear c1
            try clear c2
            try clear c2b0
            try clear c2b1
            try clear p2
            try clear c4
            try clear p6
            try clear q6
            try clear hx6
            try clear c7
            try clear c7b0
            try clear c7b1
            try clear c7b2
            try clear c8
            try clear c8b0
            try clear c8b1
            try clear c10
            try clear c10b0
            try clear c11
            try clear c11b0
            try clear c12
            try clear hcz13_0
            try clear hcz13_1
            try clear hcz4_0
            try clear hcz4_1
            try clear hfz13_0
            try clear hfz13_1
            try clear hfz4_0
            try clear hfz4_1
            try clear hx642_0
            try clear p2
            try clear p6
            try clear p642
            try clear q6
            try clear q642
            obtain ⟨x4_2, x642000_2, x642001_2, rfl, HA, HK2, BK641, HB⟩ := hrel
            cases gk with
            | zero => exact absurd HA.out (by simp [merinoref01_FromPath.l0])
            | succ k2 =>
              have H := HA.out
              clear HA
              simp only [merinoref01_FromPath.l0] at H
              by_cases c14 : x4_2 < (l0.length : Int)
              · rw [if_pos c14] at H
                have c14b0 : decide (x4_2 < (l0.length : Int)) = true := decide_eq_true c14
                clear c14
                by_cases c15 : 0 ≤ x4_2
                · rw [if_pos c15] at H
                  have c15b0 : decide (0 ≤ x4_2) = true := decide_eq_true c15
                  clear c15
                  by_cases c16 : (rd l0 x4_2) < 1
                  · rw [if_pos c16] at H
                    have c16b0 : decide ((rd l0 x4_2) < 1) = true := decide_eq_true c16
                    clear c16
                    simp only [Option.some.injEq, Prod.mk.injEq] at H
                    obtain ⟨rfl, rfl, rfl⟩ := H
                    have p643 : 0 ≤ (x4_2 : Int) := of_decide_eq_true (by first | (with_reducible assumption) | assumption)
                    have q643 : x4_2 < (l0.length : Int) := of_decide_eq_true (by first | (with_reducible assumption) | assumption)
                    obtain ⟨ad643, e643, hx643_0⟩ := Kd.at_int HR0.out x4_2 p643 q643
                    cases e643
                    replace hx643_0 := (HB.out.cell (World.block_lt_of_cell? w _ hx643_0)).trans hx643_0
                    replace p643 := eq_true p643
                    replace q643 := eq_true q643
                    have hcz17_0 : wr.cell? ⟨gb641, 0, none⟩ = some (.int .i64 x642000_2) := (blk_cell BK641.out 0).trans rfl
                    have hcz17_1 : wr.cell? ⟨gb641, 1, none⟩ = some (.int .i64 x642001_2) := (blk_cell BK641.out 1).trans rfl
                    have hfz17_0 := blk_frozen BK641.out 0
                    have hfz17_1 := blk_frozen BK641.out 1
                    go_wp2
                    refine bodyPost_ret (results_ct rfl _ _ gb641 23 #[.int .i64 0, .int .i64 0] (0, 0) _ rfl (by (with_reducible repeat (first | refine blk_drewN ?_ _ | refine blk_drew ?_ | refine blk_alloc ?_ _)); refine blk_put (cs := #[.int .i64 0, .int .i64 x642001_2]) ?_ 1 _ rfl; (with_reducible repeat (first | refine blk_drewN ?_ _ | refine blk_drew ?_ | refine blk_alloc ?_ _)); refine blk_put (cs := #[.int .i64 x642000_2, .int .i64 x642001_2]) ?_ 0 _ rfl; (with_reducible repeat (first | refine blk_drewN ?_ _ | refine blk_drew ?_ | refine blk_alloc ?_ _)); exact BK641.out) Tryd.underlying23 rfl (by kernel_rfl)) rfl ?_
                    exact ⟨by first | rfl | (simp [errW_none, errW_some] <;> rfl) | (simp [*, errW_none, errW_some] <;> rfl), by repeat (first | (with_reducible first | exact HB.out | apply below_alloc | apply pw_below_drewN | apply below_drew1 | refine below_set ?_ GE641.out) | exact HB.out)⟩
                  · rw [if_neg c16] at H
                    have c16b0 : decide ((rd l0 x4_2) < 1) = false := decide_eq_false c16
                    clear c16
                    have H' := Aside0.mk H
                    clear H
                    have p643 : 0 ≤ (x4_2 : Int) := of_decide_eq_true (by first | (with_reducible assumption) | assumption)
                    have q643 : x4_2 < (l0.length : Int) := of_decide_eq_true (by first | (with_reducible assumption) | assumption)
                    obtain ⟨ad643, e643, hx643_0⟩ := Kd.at_int HR0.out x4_2 p643 q643
                    cases e643
                    replace hx643_0 := (HB.out.cell (World.block_lt_of_cell? w _ hx643_0)).trans hx643_0
                    replace p643 := eq_true p643
                    replace q643 := eq_true q643
                    go_wp2
                    go_roundg k2
                    case measure => have := HJ4.out; have := HK2.out; omega
                    case rel => exact ⟨(wrap64 (x4_2 + 1)), (x642000_2), (x642001_2), (by first | rfl | (simp; done) | (simp [*]; done)), H', ⟨by have := HJ4.out; have := HK2.out; omega⟩, ⟨by (with_reducible repeat (first | refine blk_drewN ?_ _ | refine blk_drew ?_ | refine blk_alloc ?_ _)); exact BK641.out⟩, ⟨by repeat (first | (with_reducible first | exact HB.out | apply below_alloc | apply pw_below_drewN | apply below_drew1 | refine below_set ?_ GE641.out) | exact HB.out)⟩⟩
                · rw [if_neg c15] at H
                  exact absurd H (by simp)
              · rw [if_neg c14] at H
                have c14b0 : decide (x4_2 < (l0.length : Int)) = false := decide_eq_false c14
                clear c14
                obtain ⟨ji18, hji18⟩ : ∃ j_ : Int, (wrap64 ((l0.length : Int) - 1)) = j_ := ⟨_, rfl⟩
                replace H : (if 0 ≤ (ji18) then (if (ji18) < (l0.length : Int) then ((merinoref01_Of.f k2 (rd l0 (ji18))).bind fun bt645 => ((merinoref01_Of.f k2 1).bind fun bt649 => (merinoref01_FromPath.l1 k2 l0 (wrap64 ((l0.length : Int) - 2)) bt645.1 bt645.2 bt649.1 bt649.2))) else (none)) else (none)) = some (r1, r2, r3) := by first | (rw [hji18] at H; exact H) | (simp only [hji18] at H ⊢; exact H)
                have hji18w : (IntKind.i64.wrap ((l0.length : Int) - 1)) = ji18 := (i64_w _).trans hji18
                by_cases c19 : 0 ≤ (ji18)
                · rw [if_pos c19] at H
                  have c19b0 : decide (0 ≤ (ji18)) = true := decide_eq_true c19
                  clear c19
                  by_cases c20 : (ji18) < (l0.length : Int)
                  · rw [if_pos c20] at H
                    have c20b0 : decide ((ji18) < (l0.length : Int)) = true := decide_eq_true c20
                    clear c20
                    replace H := Option.bind_eq_some_iff.mp H
                    obtain ⟨⟨t645, t646⟩, A210, H⟩ := H
                    replace H : ((merinoref01_Of.f k2 1).bind fun bt649 => (merinoref01_FromPath.l1 k2 l0 (wrap64 ((l0.length : Int) - 2)) t645 t646 bt649.1 bt649.2)) = some (r1, r2, r3) := H
                    have A21 := Aside0.mk A210
                    clear A210
                    replace H := Option.bind_eq_some_iff.mp H
                    obtain ⟨⟨t649, t650⟩, A220, H⟩ := H
                    replace H : (merinoref01_FromPath.l1 k2 l0 (wrap64 ((l0.length : Int) - 2)) t645 t646 t649 t650) = some (r1, r2, r3) := H
                    have A22 := Aside0.mk A220
                    clear A220
                    have H' := Aside0.mk H
                    clear H
                    have p644 : 0 ≤ ((ji18) : Int) := of_decide_eq_true (by first | (with_reducible assumption) | assumption)
                    have q644 : (ji18) < (l0.length : Int) := of_decide_eq_true (by first | (with_reducible assumption) | assumption)
                    obtain ⟨ad644, e644, hx644_0⟩ := Kd.at_int HR0.out (ji18) p644 q644
                    cases e644
                    replace hx644_0 := (HB.out.cell (World.block_lt_of_cell? w _ hx644_0)).trans hx644_0
                    replace p644 := eq_true p644
                    replace q644 := eq_true q644
                    go_wp2_with (first | ((with_reducible refine gate_callee (f := 24) rfl ?_); refine goesL_ (some 48) rfl rfl Tryd.func24 (by kernel_rfl) rfl #[.int .i64 (rd l0 (ji18))] rfl (by (try simp only [List.map_toArray, List.map_cons, List.map_nil]); first | done | (simp only [hji18]; rfl) | rfl | (simp only [List.length_drop, List.length_take]; rfl)) ?_; (with_reducible refine (merinoref01_Of.calls k2 (rd l0 (ji18)) t645 t646 _ A21.out).mono ?_); rintro e w23 ⟨v647, rfl, ho0, hb⟩; refine ⟨_, rfl, ?_⟩; have n0_ := Aside0.mk (Kd.R_lower ho0 (below_size (by repeat (first | (with_reducible first | exact HB.out | apply below_alloc | apply pw_below_drewN | apply below_drew1 | refine below_set ?_ GE641.out) | exact HB.out)))); have n1_ := Aside0.mk (blk_below (g := gb641) (o := .cells #[.int .i64 x642000_2, .int .i64 x642001_2] 23 (0, 0)) (by (with_reducible repeat (first | refine blk_drewN ?_ _ | refine blk_drew ?_ | refine blk_alloc ?_ _)); exact BK641.out) hb); have n2_ := Aside0.mk (below_step (by repeat (first | (with_reducible first | exact HB.out | apply below_alloc | apply pw_below_drewN | apply below_drew1 | refine below_set ?_ GE641.out) | exact HB.out)) hb); clear BK641; clear HB; have HO648 := n0_; have BK641 := n1_; have HB := n2_; clear n0_ n1_ n2_; (try clear hb); (try clear hb2); (try clear hk); (try clear hi); (try clear ho0)) | ((with_reducible refine gate_callee (f := 24) rfl ?_); refine goesL_ (some 49) rfl rfl Tryd.func24 (by kernel_rfl) rfl #[.int .i64 1] rfl (by (try simp only [List.map_toArray, List.map_cons, List.map_nil]); first | done | rfl | (simp only [List.length_drop, List.length_take]; rfl)) ?_; (with_reducible refine (merinoref01_Of.calls k2 1 t649 t650 _ A22.out).mono ?_); rintro e w24 ⟨v651, rfl, ho0, hb⟩; refine ⟨_, rfl, ?_⟩; have n0_ := Aside0.mk (Kd.R_elder' (by (with_reducible repeat (first | apply Kd.R_alloc | apply Kd.R_drewN | apply Kd.R_drew)); exact HO648.out) (Kd.R_base ho0) hb); have n1_ := Aside0.mk (Kd.R_lower (Kd.R_new' ho0 (Kd.R_lt (by (with_reducible repeat (first | apply Kd.R_alloc | apply Kd.R_drewN | apply Kd.R_drew)); exact HO648.out))) (below_size (by repeat (first | (with_reducible first | exact HB.out | apply below_alloc | apply pw_below_drewN | apply below_drew1 | refine below_set ?_ GE641.out) | exact HB.out)))); have n2_ := Aside0.mk (blk_below (g := gb641) (o := .cells #[.int .i64 x642000_2, .int .i64 x642001_2] 23 (0, 0)) (by (with_reducible repeat (first | refine blk_drewN ?_ _ | refine blk_drew ?_ | refine blk_alloc ?_ _)); exact BK641.out) hb); have n3_ := Aside0.mk (below_step (by repeat (first | (with_reducible first | exact HB.out | apply below_alloc | apply pw_below_drewN | apply below_drew1 | refine below_set ?_ GE641.out) | exact HB.out)) hb); clear HO648; clear BK641; clear HB; have HO648 := n0_; have HO652 := n1_; have BK641 := n2_; have HB := n3_; clear n0_ n1_ n2_ n3_; (try clear hb); (try clear hb2); (try clear hk); (try clear hi); (try clear ho0)) | ((with_reducible refine gate_dst (N := 5) rfl ?_); (try (refine gate_guard (by rfl) ?_; dsimp only)); refine box_event ?hg (N := 5) ?hd (cs := #[.bool false, .slice none 0 0]) (t := 31) ?hr ?_; (case hd => rfl); (case hg => rfl); (case hr => first | (go_simp; done) | (go_simp; rfl)); intro gb653 hg w25 hbox hb; have n0_ := Aside0.mk (Kd.R_below (by (with_reducible repeat (first | apply Kd.R_alloc | apply Kd.R_drewN | apply Kd.R_drew)); exact HO648.out) hb); have n1_ := Aside0.mk (Kd.R_below (by (with_reducible repeat (first | apply Kd.R_alloc | apply Kd.R_drewN | apply Kd.R_drew)); exact HO652.out) hb); have n2_ := Aside0.mk (blk_below (g := gb641) (o := .cells #[.int .i64 x642000_2, .int .i64 x642001_2] 23 (0, 0)) (by (with_reducible repeat (first | refine blk_drewN ?_ _ | refine blk_drew ?_ | refine blk_alloc ?_ _)); exact BK641.out) hb); have n3_ := Aside0.mk (below_step (by repeat (first | (with_reducible first | exact HB.out | apply below_alloc | apply pw_below_drewN | apply below_drew1 | refine below_set ?_ GE641.out) | exact HB.out)) hb); have n4_ := Aside0.mk (hbox); have n5_ := Aside0.mk ((by rw [hg]; exact (below_size (by repeat (first | (with_reducible first | exact HB.out | apply below_alloc | apply pw_below_drewN | apply below_drew1 | refine below_set ?_ GE641.out) | exact HB.out))) : w.heap.size ≤ gb653)); have n6_ := Aside0.mk ((by rw [hg]; exact (below_size (by repeat (first | (with_reducible first | exact HB.out | apply below_alloc | apply pw_below_drewN | apply below_drew1 | refine below_set ?_ GE641.out) | exact HB.out))) : w.heap.size ≤ gb653)); have n7_ := Aside0.mk ((by rw [hg]; exact Nat.ne_of_lt (blk_lt (g := gb641) (o := .cells #[.int .i64 x642000_2, .int .i64 x642001_2] 23 (0, 0)) (by (with_reducible repeat (first | refine blk_drewN ?_ _ | refine blk_drew ?_ | refine blk_alloc ?_ _)); exact BK641.out)) : gb641 ≠ gb653)); have n8_ := Aside0.mk ((by rw [hg]; exact Nat.ne_of_gt (blk_lt (g := gb641) (o := .cells #[.int .i64 x642000_2, .int .i64 x642001_2] 23 (0, 0)) (by (with_reducible repeat (first | refine blk_drewN ?_ _ | refine blk_drew ?_ | refine blk_alloc ?_ _)); exact BK641.out)) : gb653 ≠ gb641)); clear HO648; clear HO652; clear BK641; clear HB; have HO648 := n0_; have HO652 := n1_; have BK641 := n2_; have HB := n3_; have BK653 := n4_; have GW653 := n5_; have GE653 := n6_; have NB641_653 := n7_; have NB653_641 := n8_; clear n0_ n1_ n2_ n3_ n4_ n5_ n6_ n7_ n8_; clear hb hbox hg) | ((with_reducible refine gate_dst (N := 6) rfl ?_); (try (refine gate_guard (by rfl) ?_; dsimp only)); refine box_event ?hg (N := 6) ?hd (cs := #[.bool false, .slice none 0 0]) (t := 31) ?hr ?_; (case hd => rfl); (case hg => rfl); (case hr => first | (go_simp; done) | (go_simp; rfl)); intro gb654 hg w26 hbox hb; have n0_ := Aside0.mk (Kd.R_below (by (with_reducible repeat (first | apply Kd.R_alloc | apply Kd.R_drewN | apply Kd.R_drew)); exact HO648.out) hb); have n1_ := Aside0.mk (Kd.R_below (by (with_reducible repeat (first | apply Kd.R_alloc | apply Kd.R_drewN | apply Kd.R_drew)); exact HO652.out) hb); have n2_ := Aside0.mk (blk_below (g := gb641) (o := .cells #[.int .i64 x642000_2, .int .i64 x642001_2] 23 (0, 0)) (by (with_reducible repeat (first | refine blk_drewN ?_ _ | refine blk_drew ?_ | refine blk_alloc ?_ _)); exact BK641.out) hb); have n3_ := Aside0.mk (blk_below (g := gb653) (o := .cells #[.bool false, .slice none 0 0] 31 (0, 0)) (by (with_reducible repeat (first | refine blk_drewN ?_ _ | refine blk_drew ?_ | refine blk_alloc ?_ _)); exact BK653.out) hb); have n4_ := Aside0.mk (below_step (by repeat (first | (with_reducible first | exact HB.out | apply below_alloc | apply pw_below_drewN | apply below_drew1 | refine below_set ?_ GE641.out | refine below_set ?_ GE653.out) | exact HB.out)) hb); have n5_ := Aside0.mk (hbox); have n6_ := Aside0.mk ((by rw [hg]; exact (below_size (by repeat (first | (with_reducible first | exact HB.out | apply below_alloc | apply pw_below_drewN | apply below_drew1 | refine below_set ?_ GE641.out | refine below_set ?_ GE653.out) | exact HB.out))) : w.heap.size ≤ gb654)); have n7_ := Aside0.mk ((by rw [hg]; exact (below_size (by repeat (first | (with_reducible first | exact HB.out | apply below_alloc | apply pw_below_drewN | apply below_drew1 | refine below_set ?_ GE641.out | refine below_set ?_ GE653.out) | exact HB.out))) : w.heap.size ≤ gb654)); have n8_ := Aside0.mk ((by rw [hg]; exact Nat.ne_of_lt (blk_lt (g := gb641) (o := .cells #[.int .i64 x642000_2, .int .i64 x642001_2] 23 (0, 0)) (by (with_reducible repeat (first | refine blk_drewN ?_ _ | refine blk_drew ?_ | refine blk_alloc ?_ _)); exact BK641.out)) : gb641 ≠ gb654)); have n9_ := Aside0.mk ((by rw [hg]; exact Nat.ne_of_gt (blk_lt (g := gb641) (o := .cells #[.int .i64 x642000_2, .int .i64 x642001_2] 23 (0, 0)) (by (with_reducible repeat (first | refine blk_drewN ?_ _ | refine blk_drew ?_ | refine blk_alloc ?_ _)); exact BK641.out)) : gb654 ≠ gb641)); have n10_ := Aside0.mk ((by rw [hg]; exact Nat.ne_of_lt (blk_lt (g := gb653) (o := .cells #[.bool false, .slice none 0 0] 31 (0, 0)) (by (with_reducible repeat (first | refine blk_drewN ?_ _ | refine blk_drew ?_ | refine blk_alloc ?_ _)); exact BK653.out)) : gb653 ≠ gb654)); have n11_ := Aside0.mk ((by rw [hg]; exact Nat.ne_of_gt (blk_lt (g := gb653) (o := .cells #[.bool false, .slice none 0 0] 31 (0, 0)) (by (with_reducible repeat (first | refine blk_drewN ?_ _ | refine blk_drew ?_ | refine blk_alloc ?_ _)); exact BK653.out)) : gb654 ≠ gb653)); clear HO648; clear HO652; clear BK641; clear BK653; clear HB; have HO648 := n0_; have HO652 := n1_; have BK641 := n2_; have BK653 := n3_; have HB := n4_; have BK654 := n5_; have GW654 := n6_; have GE654 := n7_; have NB641_654 := n8_; have NB654_641 := n9_; have NB653_654 := n10_; have NB654_653 := n11_; clear n0_ n1_ n2_ n3_ n4_ n5_ n6_ n7_ n8_ n9_ n10_ n11_; clear hb hbox hg; have hnb27 := NB653_641.out; have hnc27 := NB641_653.out; have hnb28 := NB653_654.out; have hnc28 := NB654_653.out; have hcz29_0 : w26.cell? ⟨gb653, 0, none⟩ = some (.bool false) := (blk_cell BK653.out 0).trans rfl; have hcz29_1 : w26.cell? ⟨gb653, 1, none⟩ = some (.slice none 0 0) := (blk_cell BK653.out 1).trans rfl; have hfz29_0 := blk_frozen BK653.out 0; have hfz29_1 := blk_frozen BK653.out 1; obtain ⟨Ao30, co30, eo30⟩ := Kd.R_slice HO648.out; subst eo30; have hnb31 := NB654_641.out; have hnc31 := NB641_654.out; have hcz32_0 : w26.cell? ⟨gb654, 0, none⟩ = some (.bool false) := (blk_cell BK654.out 0).trans rfl; have hcz32_1 : w26.cell? ⟨gb654, 1, none⟩ = some (.slice none 0 0) := (blk_cell BK654.out 1).trans rfl; have hfz32_0 := blk_frozen BK654.out 0; have hfz32_1 := blk_frozen BK654.out 1; obtain ⟨Ao33, co33, eo33⟩ := Kd.R_slice HO652.out; subst eo33))
                    go_loopg [7] k2 (fun kq v7 w' => ∃ (x7_3 : Int) (x654000_3 : Bool) (x654001_3 : List Int) (x655000_3 : Bool) (x655001_3 : List Int) (u654001 : Value) (u655001 : Value), v7 = .int .i64 x7_3 ∧ Aside0 (merinoref01_FromPath.l1 kq l0 x7_3 x654000_3 x654001_3 x655000_3 x655001_3 = some (r1, r2, r3)) ∧ Aside0 (kq ≤ k2) ∧ Aside0 (Kd.R (Kd.int .i64) 3 w' w.heap.size (fun k_ => some k_ ≠ (u655001 : Value).ownBlock) u654001 x654001_3) ∧ Aside0 (Kd.R (Kd.int .i64) 3 w' w.heap.size (fun k_ => some k_ ≠ (u654001 : Value).ownBlock) u655001 x655001_3) ∧ Aside0 (w'.heap[gb641]? = some (.cells #[.int .i64 x642000_2, .int .i64 x642001_2] 23 (0, 0))) ∧ Aside0 (w'.heap[gb653]? = some (.cells #[.bool x654000_3, u654001] 31 (0, 0))) ∧ Aside0 (w'.heap[gb654]? = some (.cells #[.bool x655000_3, u655001] 31 (0, 0))) ∧ Aside0 (Below w.heap.size w w'))
                    case atStart => exact ⟨(wrap64 ((l0.length : Int) - 2)), (t645), (t646), (t649), (t650), (.slice Ao30 t646.length co30), (.slice Ao33 t650.length co33), (by first | rfl | (simp; done) | (simp [*]; done)), H', ⟨Nat.le_refl _⟩, ⟨by (with_reducible repeat (first | apply Kd.R_alloc | apply Kd.R_drewN | apply Kd.R_drew)); exact Kd.R_mono (Kd.R_far (p := ⟨gb654, 1, none⟩) (Kd.R_far (p := ⟨gb654, 0, none⟩) (Kd.R_far (p := ⟨gb653, 1, none⟩) (Kd.R_far (p := ⟨gb653, 0, none⟩) (Kd.R_types (Kd.R_types HO648.out BK653.out (by decide)) BK654.out (by decide)) (fun _ hk => hk.1.2) (.bool t645)) (fun _ hk => hk.1.2) (.slice Ao30 t646.length co30)) (fun _ hk => hk.2) (.bool t649)) (fun _ hk => hk.2) (.slice Ao33 t650.length co33)) (fun _ hk => hk.1.1.2)⟩, ⟨by (with_reducible repeat (first | apply Kd.R_alloc | apply Kd.R_drewN | apply Kd.R_drew)); exact Kd.R_mono (Kd.R_far (p := ⟨gb654, 1, none⟩) (Kd.R_far (p := ⟨gb654, 0, none⟩) (Kd.R_far (p := ⟨gb653, 1, none⟩) (Kd.R_far (p := ⟨gb653, 0, none⟩) (Kd.R_types (Kd.R_types HO652.out BK653.out (by decide)) BK654.out (by decide)) (fun _ hk => hk.1.2) (.bool t645)) (fun _ hk => hk.1.2) (.slice Ao30 t646.length co30)) (fun _ hk => hk.2) (.bool t649)) (fun _ hk => hk.2) (.slice Ao33 t650.length co33)) (fun _ hk => hk.1.1.2)⟩, ⟨by (with_reducible repeat (first | refine blk_drewN ?_ _ | refine blk_drew ?_ | refine blk_alloc ?_ _)); refine blk_far ?_ NB641_654.out _; (with_reducible repeat (first | refine blk_drewN ?_ _ | refine blk_drew ?_ | refine blk_alloc ?_ _)); refine blk_far ?_ NB641_654.out _; (with_reducible repeat (first | refine blk_drewN ?_ _ | refine blk_drew ?_ | refine blk_alloc ?_ _)); refine blk_far ?_ NB641_653.out _; (with_reducible repeat (first | refine blk_drewN ?_ _ | refine blk_drew ?_ | refine blk_alloc ?_ _)); refine blk_far ?_ NB641_653.out _; (with_reducible repeat (first | refine blk_drewN ?_ _ | refine blk_drew ?_ | refine blk_alloc ?_ _)); exact BK641.out⟩, ⟨by (with_reducible repeat (first | refine blk_drewN ?_ _ | refine blk_drew ?_ | refine blk_alloc ?_ _)); refine blk_far ?_ NB653_654.out _; (with_reducible repeat (first | refine blk_drewN ?_ _ | refine blk_drew ?_ | refine blk_alloc ?_ _)); refine blk_far ?_ NB653_654.out _; (with_reducible repeat (first | refine blk_drewN ?_ _ | refine blk_drew ?_ | refine blk_alloc ?_ _)); refine blk_put (cs := #[.bool t645, .slice none 0 0]) ?_ 1 _ rfl; (with_reducible repeat (first | refine blk_drewN ?_ _ | refine blk_drew ?_ | refine blk_alloc ?_ _)); refine blk_put (cs := #[.bool false, .slice none 0 0]) ?_ 0 _ rfl; (with_reducible repeat (first | refine blk_drewN ?_ _ | refine blk_drew ?_ | refine blk_alloc ?_ _)); exact BK653.out⟩, ⟨by (with_reducible repeat (first | refine blk_drewN ?_ _ | refine blk_drew ?_ | refine blk_alloc ?_ _)); refine blk_put (cs := #[.bool t649, .slice none 0 0]) ?_ 1 _ rfl; (with_reducible repeat (first | refine blk_drewN ?_ _ | refine blk_drew ?_ | refine blk_alloc ?_ _)); refine blk_put (cs := #[.bool false, .slice none 0 0]) ?_ 0 _ rfl; (with_reducible repeat (first | refine blk_drewN ?_ _ | refine blk_drew ?_ | refine blk_alloc ?_ _)); refine blk_far ?_ NB654_653.out _; (with_reducible repeat (first | refine blk_drewN ?_ _ | refine blk_drew ?_ | refine blk_alloc ?_ _)); refine blk_far ?_ NB654_653.out _; (with_reducible repeat (first | refine blk_drewN ?_ _ | refine blk_drew ?_ | refine blk_alloc ?_ _)); exact BK654.out⟩, ⟨by repeat (first | (with_reducible first | exact HB.out | apply below_alloc | apply pw_below_drewN | apply below_drew1 | refine below_set ?_ GE641.out | refine below_set ?_ GE653.out | refine below_set ?_ GE654.out) | exact HB.out)⟩⟩
                    case round =>
                      clear H'
                      try clear c1
                      try clear c2
                      try clear c2b0
                      try clear c2b1
                      try clear p2
                      try clear c3
                      try clear c4
                      try clear p6
                      try clear q6
                      try clear hx6
                      try clear c7
                      try clear c7b0
                      try clear c7b1
                      try clear c7b2
                      try clear c8
                      try clear c8b0
                      try clear c8b1
                      try clear c10
                      try clear c10b0
                      try clear c11
                      try clear c11b0
                      try clear c12
                      try clear c14
                      try clear c14b0
                      try clear c15
                      try clear c15b0
                      try clear c16
                      try clear c16b0
                      try clear c19
                      try clear c19b0
                      try clear c20
                      try clear c20b0
                      try clear c24
                      try clear c27
                      try clear c28
                      try clear c31
                      try clear hcz13_0
                      try clear hcz13_1
                      try clear hcz17_0
                      try clear hcz17_1
                      try clear hcz29_0
                      try clear hcz29_1
                      try clear hcz32_0
                      try clear hcz32_1
                      try clear hcz4_0
                      try clear hcz4_1
                      try clear hfz13_0
                      try clear hfz13_1
                      try clear hfz17_0
                      try clear hfz17_1
                      try clear hfz29_0
                      try clear hfz29_1
                      try clear hfz32_0
                      try clear hfz32_1
                      try clear hfz4_0
                      try clear hfz4_1
                      try clear hx642_0
                      try clear hx643_0
                      try clear hx644_0
                      try clear p2
                      try clear p6
                      try clear p642
                      try clear p643
                      try clear p644
                      try clear q6
                      try clear q642
                      try clear q643
                      try clear q644
                      obtain ⟨x7_3, x654000_3, x654001_3, x655000_3, x655001_3, u654001, u655001, rfl, HA, HK3, HO_654001, HO_655001, BK641, BK653, BK654, HB⟩ := hrel
                      cases gk with
                      | zero => exact absurd HA.out (by simp [merinoref01_FromPath.l1])
                      | succ k3 =>
                        have H := HA.out
                        clear HA
                        simp only [merinoref01_FromPath.l1] at H
                        by_cases c34 : x7_3 ≥ 0
                        · rw [if_pos c34] at H
                          have c34b0 : decide (0 ≤ x7_3) = true := decide_eq_true c34
                          clear c34
                          by_cases c35 : 0 ≤ x7_3
                          · rw [if_pos c35] at H
                            have c35b0 : decide (0 ≤ x7_3) = true := decide_eq_true c35
                            clear c35
                            by_cases c36 : x7_3 < (l0.length : Int)
                            · rw [if_pos c36] at H
                              have c36b0 : decide (x7_3 < (l0.length : Int)) = true := decide_eq_true c36
                              clear c36
                              replace H := Option.bind_eq_some_iff.mp H
                              obtain ⟨⟨t656, t657⟩, A370, H⟩ := H
                              replace H : ((merinoref01_Times.f k3 t656 t657 x654000_3 x654001_3).bind fun bt660 => ((merinoref01_Plus.f k3 bt660.1 bt660.2 x655000_3 x655001_3).bind fun bt664 => (merinoref01_FromPath.l1 k3 l0 (wrap64 (x7_3 - 1)) bt664.1 bt664.2 x654000_3 x654001_3))) = some (r1, r2, r3) := H
                              have A37 := Aside0.mk A370
                              clear A370
                              replace H := Option.bind_eq_some_iff.mp H
                              obtain ⟨⟨t660, t661⟩, A380, H⟩ := H
                              replace H : ((merinoref01_Plus.f k3 t660 t661 x655000_3 x655001_3).bind fun bt664 => (merinoref01_FromPath.l1 k3 l0 (wrap64 (x7_3 - 1)) bt664.1 bt664.2 x654000_3 x654001_3)) = some (r1, r2, r3) := H
                              have A38 := Aside0.mk A380
                              clear A380
                              replace H := Option.bind_eq_some_iff.mp H
                              obtain ⟨⟨t664, t665⟩, A390, H⟩ := H
                              replace H : (merinoref01_FromPath.l1 k3 l0 (wrap64 (x7_3 - 1)) t664 t665 x654000_3 x654001_3) = some (r1, r2, r3) := H
                              have A39 := Aside0.mk A390
                              clear A390
                              have H' := Aside0.mk H
                              clear H
                              try go_wp2
                              have n0_ := Aside0.mk (Kd.R_drew HO_654001.out)
                              have n1_ := Aside0.mk (Kd.R_drew HO_655001.out)
                              have n2_ := Aside0.mk (blk_drew BK641.out)
                              have n3_ := Aside0.mk (blk_drew BK653.out)
                              have n4_ := Aside0.mk (blk_drew BK654.out)
                              have n5_ := Aside0.mk (below_drew1 HB.out)
                              clear HO_654001
                              clear HO_655001
                              clear BK641
                              clear BK653
                              clear BK654
                              clear HB
                              have HO_654001 := n0_
                              have HO_655001 := n1_
                              have BK641 := n2_
                              have BK653 := n3_
                              have BK654 := n4_
                              have HB := n5_
                              clear n0_ n1_ n2_ n3_ n4_ n5_
                              have p655 : 0 ≤ (x7_3 : Int) := of_decide_eq_true (by first | (with_reducible assumption) | assumption)
                              have q655 : x7_3 < (l0.length : Int) := of_decide_eq_true (by first | (with_reducible assumption) | assumption)
                              obtain ⟨ad655, e655, hx655_0⟩ := Kd.at_int HR0.out x7_3 p655 q655
                              have hw655_0 := hx655_0
                              obtain rfl : ad644 = ad655 := (by injection e655)
                              replace hx655_0 := (HB.out.cell (World.block_lt_of_cell? w _ hx655_0)).trans hx655_0
                              replace p655 := eq_true p655
                              replace q655 := eq_true q655
                              refine start_ (n := 12) (S := fun w' => w'.cell? ⟨gb653, 0, none⟩ = some (.bool x654000_3) ∧ w'.cell? ⟨gb653, 1, none⟩ = some (u654001) ∧ w'.cell? ⟨gb654, 0, none⟩ = some (.bool x655000_3) ∧ w'.cell? ⟨gb654, 1, none⟩ = some (u655001) ∧ w'.cell? (ad644.add (x7_3).toNat) = some (.int .i64 (rd l0 x7_3))) (ds := [10, 11]) #[false, false, false, false, false, false, false, false, false, false, false, false] (by kernel_rfl) rfl rfl ⟨(blk_cell BK653.out 0).trans rfl, (blk_cell BK653.out 1).trans rfl, (blk_cell BK654.out 0).trans rfl, (blk_cell BK654.out 1).trans rfl, ((HB.out.cell (World.block_lt_of_cell? w _ hw655_0)).trans hw655_0)⟩ (fun hHeld => ?_); refine with_tabW merinoref01_FromPath.tab14 merinoref01_FromPath.bits14 (fun HT_ HW_ => ?_)
                              generalize wr.drew = w40 at HO_654001 HO_655001 BK641 BK653 BK654 HB hx655_0 hHeld ⊢
                              refine pure_ (i := 0) (N := some 57) (v := ?_) (a' := ?_) #[true, false, false, false, false, false, false, false, false, false, false, false] rfl rfl (any_of HT_.out (by kernel_rfl)) (fun _ _ _ h => h) (Or.inl ⟨by rfl, ?_⟩) ?_ ?_
                              rotate_left
                              · intro w'
                                go_simp
                                with_reducible rfl
                              rotate_left
                              · simp only [Act.put, List.setIfInBounds_toArray, List.set_cons_zero, List.set_cons_succ, i64_w, i32_w]
                                rfl
                              refine pure_ (i := 1) (N := some 58) (v := ?_) (a' := ?_) #[true, true, false, false, false, false, false, false, false, false, false, false] rfl rfl (any_of HT_.out (by kernel_rfl)) (fun _ _ _ h => h) (Or.inl ⟨by rfl, ?_⟩) ?_ ?_
                              rotate_left
                              · intro w'
                                go_simp
                                with_reducible rfl
                              rotate_left
                              · simp only [Act.put, List.setIfInBounds_toArray, List.set_cons_zero, List.set_cons_succ, i64_w, i32_w]
                                rfl
                              refine pure_ (i := 2) (N := some 59) (v := ?_) (a' := ?_) #[true, true, true, false, false, false, false, false, false, false, false, false] rfl rfl (any_of HT_.out (by kernel_rfl)) (fun _ _ _ h => h) (Or.inl ⟨by rfl, ?_⟩) ?_ ?_
                              rotate_left
                              · intro w'
                                go_simp
                                with_reducible rfl
                              rotate_left
                              · simp only [Act.put, List.setIfInBounds_toArray, List.set_cons_zero, List.set_cons_succ, i64_w, i32_w]
                                rfl
                              refine take_ (i := 3) (N := some 60) (v := ?_) (a' := ?_) #[true, true, true, true, false, false, false, false, false, false, false, false] rfl rfl (take_ofW HT_.out HW_.out (by kernel_rfl)) (fun _ _ _ h => h) (Or.inl ⟨by rfl, ?_⟩) hHeld ?_ ?_
                              rotate_left
                              · rintro w' ⟨s0, s1, s2, s3, s4⟩
                                go_simp
                                with_reducible rfl
                              rotate_left
                              · simp only [Act.put, List.setIfInBounds_toArray, List.set_cons_zero, List.set_cons_succ, i64_w, i32_w]
                                rfl
                              refine take_ (i := 5) (N := some 62) (v := ?_) (a' := ?_) #[true, true, true, true, false, true, false, false, false, false, false, false] rfl rfl (take_ofW HT_.out HW_.out (by kernel_rfl)) (fun _ _ _ h => h) (Or.inl ⟨by rfl, ?_⟩) hHeld ?_ ?_
                              rotate_left
                              · rintro w' ⟨s0, s1, s2, s3, s4⟩
                                go_simp
                                with_reducible rfl
                              rotate_left
                              · simp only [Act.put, List.setIfInBounds_toArray, List.set_cons_zero, List.set_cons_succ, i64_w, i32_w]
                                rfl
                              refine take_ (i := 7) (N := some 64) (v := ?_) (a' := ?_) #[true, true, true, true, false, true, false, true, false, false, false, false] rfl rfl (take_ofW HT_.out HW_.out (by kernel_rfl)) (fun _ _ _ h => h) (Or.inl ⟨by rfl, ?_⟩) hHeld ?_ ?_
                              rotate_left
                              · rintro w' ⟨s0, s1, s2, s3, s4⟩
                                go_simp
                                with_reducible rfl
                              rotate_left
                              · simp only [Act.put, List.setIfInBounds_toArray, List.set_cons_zero, List.set_cons_succ, i64_w, i32_w]
                                rfl
                              refine take_ (i := 9) (N := some 66) (v := ?_) (a' := ?_) #[true, true, true, true, false, true, false, true, false, true, false, false] rfl rfl (take_ofW HT_.out HW_.out (by kernel_rfl)) (fun _ _ _ h => h) (Or.inl ⟨by rfl, ?_⟩) hHeld ?_ ?_
                              rotate_left
                              · rintro w' ⟨s0, s1, s2, s3, s4⟩
                                go_simp
                                with_reducible rfl
                              rotate_left
                              · simp only [Act.put, List.setIfInBounds_toArray, List.set_cons_zero, List.set_cons_succ, i64_w, i32_w]
                                rfl
                              refine one_ (i := 4) (N := some 61) #[true, true, true, true, true, true, false, true, false, true, false, false] rfl rfl (one_of HT_.out (by kernel_rfl)) (by decide) (fun K hK => ?_)
                              refine goes_ Tryd.func24 (by kernel_rfl) rfl #[.int .i64 (rd l0 x7_3)] (by rfl) rfl rfl (by (try simp only [List.map_toArray, List.map_cons, List.map_nil]); first | done | rfl | (simp only [List.length_drop, List.length_take]; rfl)) ?_
                              with_reducible refine (merinoref01_Of.calls k3 (rd l0 x7_3) t656 t657 _ A37.out).mono ?_
                              rintro e w41 ⟨v658, rfl, ho0, hb⟩
                              refine ⟨_, rfl, ?_⟩
                              have n0_ := Aside0.mk (Kd.R_elder' (by (with_reducible repeat (first | apply Kd.R_alloc | apply Kd.R_drewN | apply Kd.R_drew)); exact HO_654001.out) (Kd.R_base ho0) hb)
                              have n1_ := Aside0.mk (Kd.R_elder' (by (with_reducible repeat (first | apply Kd.R_alloc | apply Kd.R_drewN | apply Kd.R_drew)); exact HO_655001.out) (Kd.R_base ho0) hb)
                              have n2_ := Aside0.mk (Kd.R_lower (Kd.R_new' (Kd.R_new' ho0 (Kd.R_lt (by (with_reducible repeat (first | apply Kd.R_alloc | apply Kd.R_drewN | apply Kd.R_drew)); exact HO_654001.out))) (Kd.R_lt (by (with_reducible repeat (first | apply Kd.R_alloc | apply Kd.R_drewN | apply Kd.R_drew)); exact HO_655001.out))) (below_size (by repeat (first | (with_reducible first | exact HB.out | apply below_alloc | apply pw_below_drewN | apply below_drew1 | refine below_set ?_ GE641.out | refine below_set ?_ GE653.out | refine below_set ?_ GE654.out) | exact HB.out))))
                              have n3_ := Aside0.mk (blk_below (g := gb641) (o := .cells #[.int .i64 x642000_2, .int .i64 x642001_2] 23 (0, 0)) (by (with_reducible repeat (first | refine blk_drewN ?_ _ | refine blk_drew ?_ | refine blk_alloc ?_ _)); exact BK641.out) hb)
                              have n4_ := Aside0.mk (blk_below (g := gb653) (o := .cells #[.bool x654000_3, u654001] 31 (0, 0)) (by (with_reducible repeat (first | refine blk_drewN ?_ _ | refine blk_drew ?_ | refine blk_alloc ?_ _)); exact BK653.out) hb)
                              have n5_ := Aside0.mk (blk_below (g := gb654) (o := .cells #[.bool x655000_3, u655001] 31 (0, 0)) (by (with_reducible repeat (first | refine blk_drewN ?_ _ | refine blk_drew ?_ | refine blk_alloc ?_ _)); exact BK654.out) hb)
                              have n6_ := Aside0.mk (below_step (by repeat (first | (with_reducible first | exact HB.out | apply below_alloc | apply pw_below_drewN | apply below_drew1 | refine below_set ?_ GE641.out | refine below_set ?_ GE653.out | refine below_set ?_ GE654.out) | exact HB.out)) hb)
                              clear HO_654001
                              clear HO_655001
                              clear BK641
                              clear BK653
                              clear BK654
                              clear HB
                              have HO_654001 := n0_
                              have HO_655001 := n1_
                              have HO659 := n2_
                              have BK641 := n3_
                              have BK653 := n4_
                              have BK654 := n5_
                              have HB := n6_
                              clear n0_ n1_ n2_ n3_ n4_ n5_ n6_
                              (try clear hb)
                              (try clear hb2)
                              (try clear hk)
                              (try clear hi)
                              (try clear ho0)
                              obtain ⟨Ao42, co42, eo42⟩ := Kd.R_slice HO659.out
                              (first | subst eo42 | (injection eo42 with f1_ f2_ f3_; have f4_ := f1_.symm; have f5_ := f3_.symm; clear f1_ f2_ f3_; subst f4_; subst f5_))
                              obtain ⟨Ao43, co43, eo43⟩ := Kd.R_slice HO_654001.out
                              (first | subst eo43 | (injection eo43 with f1_ f2_ f3_; have f4_ := f1_.symm; have f5_ := f3_.symm; clear f1_ f2_ f3_; subst f4_; subst f5_))
                              refine hK.out _ _ ⟨(blk_cell BK653.out 0).trans rfl, (blk_cell BK653.out 1).trans rfl, (blk_cell BK654.out 0).trans rfl, (blk_cell BK654.out 1).trans rfl, ((HB.out.cell (World.block_lt_of_cell? w _ hw655_0)).trans hw655_0)⟩ (fun hHeld => ?_)
                              clear hK K
                              refine norm_ (a' := ?_) ?_ ?_
                              rotate_left
                              · show Act.put _ (some 61) _ = _
                                simp only [Act.put, List.setIfInBounds_toArray, List.set_cons_zero, List.set_cons_succ, i64_w, i32_w]
                                rfl
                              refine one_ (i := 6) (N := some 63) #[true, true, true, true, true, true, true, true, false, true, false, false] rfl rfl (one_of HT_.out (by kernel_rfl)) (by decide) (fun K hK => ?_)
                              refine goes_ Tryd.func22 (by kernel_rfl) rfl #[.agg #[.bool t656, .slice Ao42 t657.length co42], .agg #[.bool x654000_3, .slice Ao43 x654001_3.length co43]] (by rfl) rfl rfl (by (try simp only [List.map_toArray, List.map_cons, List.map_nil]); first | done | rfl | (simp only [List.length_drop, List.length_take]; rfl)) ?_
                              with_reducible refine (merinoref01_Times.calls k3 t656 _ _ t657 x654000_3 _ _ x654001_3 t660 t661 _ ?side1 ?side2 ?side3 ?side4 A38.out).mono ?_
                              (case side1 => repeat (first | exact (Kd.R_reads' HO659.out).2.2 | (with_reducible refine Kd.C_alloc ?_ _) | (with_reducible refine Kd.C_drewN ?_ _) | (with_reducible refine Kd.C_drew ?_)))
                              (case side2 => exact (Kd.R_reads' HO659.out).2.1)
                              (case side3 => repeat (first | exact (Kd.R_reads' HO_654001.out).2.2 | (with_reducible refine Kd.C_alloc ?_ _) | (with_reducible refine Kd.C_drewN ?_ _) | (with_reducible refine Kd.C_drew ?_)))
                              (case side4 => exact (Kd.R_reads' HO_654001.out).2.1)
                              rintro e w44 ⟨v662, rfl, ho0, hb⟩
                              refine ⟨_, rfl, ?_⟩
                              have n0_ := Aside0.mk (Kd.R_elder' (by (with_reducible repeat (first | apply Kd.R_alloc | apply Kd.R_drewN | apply Kd.R_drew)); exact HO_654001.out) (Kd.R_base ho0) hb)
                              have n1_ := Aside0.mk (Kd.R_elder' (by (with_reducible repeat (first | apply Kd.R_alloc | apply Kd.R_drewN | apply Kd.R_drew)); exact HO_655001.out) (Kd.R_base ho0) hb)
                              have n2_ := Aside0.mk (Kd.R_elder' (by (with_reducible repeat (first | apply Kd.R_alloc | apply Kd.R_drewN | apply Kd.R_drew)); exact HO659.out) (Kd.R_base ho0) hb)
                              have n3_ := Aside0.mk (Kd.R_lower (Kd.R_new' (Kd.R_new' (Kd.R_new' ho0 (Kd.R_lt (by (with_reducible repeat (first | apply Kd.R_alloc | apply Kd.R_drewN | apply Kd.R_drew)); exact HO_654001.out))) (Kd.R_lt (by (with_reducible repeat (first | apply Kd.R_alloc | apply Kd.R_drewN | apply Kd.R_drew)); exact HO_655001.out))) (Kd.R_lt (by (with_reducible repeat (first | apply Kd.R_alloc | apply Kd.R_drewN | apply Kd.R_drew)); exact HO659.out))) (below_size (by repeat (first | (with_reducible first | exact HB.out | apply below_alloc | apply pw_below_drewN | apply below_drew1 | refine below_set ?_ GE641.out | refine below_set ?_ GE653.out | refine below_set ?_ GE654.out) | exact HB.out))))
                              have n4_ := Aside0.mk (blk_below (g := gb641) (o := .cells #[.int .i64 x642000_2, .int .i64 x642001_2] 23 (0, 0)) (by (with_reducible repeat (first | refine blk_drewN ?_ _ | refine blk_drew ?_ | refine blk_alloc ?_ _)); exact BK641.out) hb)
                              have n5_ := Aside0.mk (blk_below (g := gb653) (o := .cells #[.bool x654000_3, .slice Ao43 x654001_3.length co43] 31 (0, 0)) (by (with_reducible repeat (first | refine blk_drewN ?_ _ | refine blk_drew ?_ | refine blk_alloc ?_ _)); exact BK653.out) hb)
                              have n6_ := Aside0.mk (blk_below (g := gb654) (o := .cells #[.bool x655000_3, u655001] 31 (0, 0)) (by (with_reducible repeat (first | refine blk_drewN ?_ _ | refine blk_drew ?_ | refine blk_alloc ?_ _)); exact BK654.out) hb)
                              have n7_ := Aside0.mk (below_step (by repeat (first | (with_reducible first | exact HB.out | apply below_alloc | apply pw_below_drewN | apply below_drew1 | refine below_set ?_ GE641.out | refine below_set ?_ GE653.out | refine below_set ?_ GE654.out) | exact HB.out)) hb)
                              clear HO_654001
                              clear HO_655001
                              clear HO659
                              clear BK641
                              clear BK653
                              clear BK654
                              clear HB
                              have HO_654001 := n0_
                              have HO_655001 := n1_
                              have HO659 := n2_
                              have HO663 := n3_
                              have BK641 := n4_
                              have BK653 := n5_
                              have BK654 := n6_
                              have HB := n7_
                              clear n0_ n1_ n2_ n3_ n4_ n5_ n6_ n7_
                              (try clear hb)
                              (try clear hb2)
                              (try clear hk)
                              (try clear hi)
                              (try clear ho0)
                              obtain ⟨Ao45, co45, eo45⟩ := Kd.R_slice HO663.out
                              (first | subst eo45 | (injection eo45 with f1_ f2_ f3_; have f4_ := f1_.symm; have f5_ := f3_.symm; clear f1_ f2_ f3_; subst f4_; subst f5_))
                              obtain ⟨Ao46, co46, eo46⟩ := Kd.R_slice HO_655001.out
                              (first | subst eo46 | (injection eo46 with f1_ f2_ f3_; have f4_ := f1_.symm; have f5_ := f3_.symm; clear f1_ f2_ f3_; subst f4_; subst f5_))
                              refine hK.out _ _ ⟨(blk_cell BK653.out 0).trans rfl, (blk_cell BK653.out 1).trans rfl, (blk_cell BK654.out 0).trans rfl, (blk_cell BK654.out 1).trans rfl, ((HB.out.cell (World.block_lt_of_cell? w _ hw655_0)).trans hw655_0)⟩ (fun hHeld => ?_)
                              clear hK K
                              refine norm_ (a' := ?_) ?_ ?_
                              rotate_left
                              · show Act.put _ (some 63) _ = _
                                simp only [Act.put, List.setIfInBounds_toArray, List.set_cons_zero, List.set_cons_succ, i64_w, i32_w]
                                rfl
                              refine one_ (i := 8) (N := some 65) #[true, true, true, true, true, true, true, true, true, true, false, false] rfl rfl (one_of HT_.out (by kernel_rfl)) (by decide) (fun K hK => ?_)
                              refine goes_ Tryd.func84 (by kernel_rfl) rfl #[.agg #[.bool t660, .slice Ao45 t661.length co45], .agg #[.bool x655000_3, .slice Ao46 x655001_3.length co46]] (by rfl) rfl rfl (by (try simp only [List.map_toArray, List.map_cons, List.map_nil]); first | done | rfl | (simp only [List.length_drop, List.length_take]; rfl)) ?_
                              with_reducible refine (merinoref01_Plus.calls k3 t660 _ _ t661 x655000_3 _ _ x655001_3 t664 t665 _ ?side1 ?side2 ?side3 ?side4 A39.out).mono ?_
                              (case side1 => repeat (first | exact (Kd.R_reads' HO663.out).2.2 | (with_reducible refine Kd.C_alloc ?_ _) | (with_reducible refine Kd.C_drewN ?_ _) | (with_reducible refine Kd.C_drew ?_)))
                              (case side2 => exact (Kd.R_reads' HO663.out).2.1)
                              (case side3 => repeat (first | exact (Kd.R_reads' HO_655001.out).2.2 | (with_reducible refine Kd.C_alloc ?_ _) | (with_reducible refine Kd.C_drewN ?_ _) | (with_reducible refine Kd.C_drew ?_)))
                              (case side4 => exact (Kd.R_reads' HO_655001.out).2.1)
                              rintro e w47 ⟨v666, rfl, ho0, hb⟩
                              refine ⟨_, rfl, ?_⟩
                              have n0_ := Aside0.mk (Kd.R_elder' (by (with_reducible repeat (first | apply Kd.R_alloc | apply Kd.R_drewN | apply Kd.R_drew)); exact HO_654001.out) (Kd.R_base ho0) hb)
                              have n1_ := Aside0.mk (Kd.R_elder' (by (with_reducible repeat (first | apply Kd.R_alloc | apply Kd.R_drewN | apply Kd.R_drew)); exact HO_655001.out) (Kd.R_base ho0) hb)
                              have n2_ := Aside0.mk (Kd.R_elder' (by (with_reducible repeat (first | apply Kd.R_alloc | apply Kd.R_drewN | apply Kd.R_drew)); exact HO659.out) (Kd.R_base ho0) hb)
                              have n3_ := Aside0.mk (Kd.R_elder' (by (with_reducible repeat (first | apply Kd.R_alloc | apply Kd.R_drewN | apply Kd.R_drew)); exact HO663.out) (Kd.R_base ho0) hb)
                              have n4_ := Aside0.mk (Kd.R_lower (Kd.R_new' (Kd.R_new' (Kd.R_new' (Kd.R_new' ho0 (Kd.R_lt (by (with_reducible repeat (first | apply Kd.R_alloc | apply Kd.R_drewN | apply Kd.R_drew)); exact HO_654001.out))) (Kd.R_lt (by (with_reducible repeat (first | apply Kd.R_alloc | apply Kd.R_drewN | apply Kd.R_drew)); exact HO_655001.out))) (Kd.R_lt (by (with_reducible repeat (first | apply Kd.R_alloc | apply Kd.R_drewN | apply Kd.R_drew)); exact HO659.out))) (Kd.R_lt (by (with_reducible repeat (first | apply Kd.R_alloc | apply Kd.R_drewN | apply Kd.R_drew)); exact HO663.out))) (below_size (by repeat (first | (with_reducible first | exact HB.out | apply below_alloc | apply pw_below_drewN | apply below_drew1 | refine below_set ?_ GE641.out | refine below_set ?_ GE653.out | refine below_set ?_ GE654.out) | exact HB.out))))
                              have n5_ := Aside0.mk (blk_below (g := gb641) (o := .cells #[.int .i64 x642000_2, .int .i64 x642001_2] 23 (0, 0)) (by (with_reducible repeat (first | refine blk_drewN ?_ _ | refine blk_drew ?_ | refine blk_alloc ?_ _)); exact BK641.out) hb)
                              have n6_ := Aside0.mk (blk_below (g := gb653) (o := .cells #[.bool x654000_3, .slice Ao43 x654001_3.length co43] 31 (0, 0)) (by (with_reducible repeat (first | refine blk_drewN ?_ _ | refine blk_drew ?_ | refine blk_alloc ?_ _)); exact BK653.out) hb)
                              have n7_ := Aside0.mk (blk_below (g := gb654) (o := .cells #[.bool x655000_3, .slice Ao46 x655001_3.length co46] 31 (0, 0)) (by (with_reducible repeat (first | refine blk_drewN ?_ _ | refine blk_drew ?_ | refine blk_alloc ?_ _)); exact BK654.out) hb)
                              have n8_ := Aside0.mk (below_step (by repeat (first | (with_reducible first | exact HB.out | apply below_alloc | apply pw_below_drewN | apply below_drew1 | refine below_set ?_ GE641.out | refine below_set ?_ GE653.out | refine below_set ?_ GE654.out) | exact HB.out)) hb)
                              clear HO_654001
                              clear HO_655001
                              clear HO659
                              clear HO663
                              clear BK641
                              clear BK653
                              clear BK654
                              clear HB
                              have HO_654001 := n0_
                              have HO_655001 := n1_
                              have HO659 := n2_
                              have HO663 := n3_
                              have HO667 := n4_
                              have BK641 := n5_
                              have BK653 := n6_
                              have BK654 := n7_
                              have HB := n8_
                              clear n0_ n1_ n2_ n3_ n4_ n5_ n6_ n7_ n8_
                              (try clear hb)
                              (try clear hb2)
                              (try clear hk)
                              (try clear hi)
                              (try clear ho0)
                              obtain ⟨Ao49, co49, eo49⟩ := Kd.R_slice HO667.out
                              (first | subst eo49 | (injection eo49 with f1_ f2_ f3_; have f4_ := f1_.symm; have f5_ := f3_.symm; clear f1_ f2_ f3_; subst f4_; subst f5_))
                              refine hK.out _ _ ⟨(blk_cell BK653.out 0).trans rfl, (blk_cell BK653.out 1).trans rfl, (blk_cell BK654.out 0).trans rfl, (blk_cell BK654.out 1).trans rfl, ((HB.out.cell (World.block_lt_of_cell? w _ hw655_0)).trans hw655_0)⟩ (fun hHeld => ?_)
                              clear hK K
                              refine norm_ (a' := ?_) ?_ ?_
                              rotate_left
                              · show Act.put _ (some 65) _ = _
                                simp only [Act.put, List.setIfInBounds_toArray, List.set_cons_zero, List.set_cons_succ, i64_w, i32_w]
                                rfl
                              refine last_ (i := 10) (N := none) #[true, true, true, true, true, true, true, true, true, true, true, false] rfl rfl (one_of HT_.out (by kernel_rfl)) (by decide) (fun K hK => ?_)
                              have hs48 : w47.cell? ⟨gb653, 0, none⟩ = some (.bool x654000_3) := (blk_cell BK653.out 0).trans rfl
                              have hfs48 := blk_frozen BK653.out 0
                              have hns48_0 := NB641_653.out
                              have hns48_2 := NB654_653.out
                              have hms48_0 := NB653_641.out
                              have hms48_2 := NB653_654.out
                              have hs50 : w47.cell? ⟨gb653, 1, none⟩ = some (.slice Ao43 x654001_3.length co43) := (blk_cell BK653.out 1).trans rfl
                              have hfs50 := blk_frozen BK653.out 1
                              have hns50_0 := NB641_653.out
                              have hns50_2 := NB654_653.out
                              have hms50_0 := NB653_641.out
                              have hms50_2 := NB653_654.out
                              refine skip_ (w1 := ?_) (by rfl) rfl ?_ ?_
                              rotate_left
                              · go_simp
                                rfl
                              refine hK.out _ _ ?_
                              clear hK K
                              refine last_ (i := 11) (N := none) #[true, true, true, true, true, true, true, true, true, true, true, true] rfl rfl (one_of HT_.out (by kernel_rfl)) (by decide) (fun K hK => ?_)
                              have hs51 : w47.cell? ⟨gb654, 0, none⟩ = some (.bool x655000_3) := (blk_cell BK654.out 0).trans rfl
                              have hfs51 := blk_frozen BK654.out 0
                              have hns51_0 := NB641_654.out
                              have hns51_1 := NB653_654.out
                              have hms51_0 := NB654_641.out
                              have hms51_1 := NB654_653.out
                              have hs52 : w47.cell? ⟨gb654, 1, none⟩ = some (.slice Ao46 x655001_3.length co46) := (blk_cell BK654.out 1).trans rfl
                              have hfs52 := blk_frozen BK654.out 1
                              have hns52_0 := NB641_654.out
                              have hns52_1 := NB653_654.out
                              have hms52_0 := NB654_641.out
                              have hms52_1 := NB654_653.out
                              refine skip_ (w1 := ?_) (by rfl) rfl ?_ ?_
                              rotate_left
                              · go_simp
                                rfl
                              refine hK.out _ _ ?_
                              clear hK K
                              refine done_ (done_of HT_.out (by kernel_rfl)) ?_
                              try go_wp2
                              go_roundg k3
                              case measure => have := HJ4.out; have := HK2.out; have := HK3.out; omega
                              case rel => exact ⟨(wrap64 (x7_3 - 1)), (t664), (t665), (x654000_3), (x654001_3), (.slice Ao49 t665.length co49), (.slice Ao43 x654001_3.length co43), (by first | rfl | (simp; done) | (simp [*]; done)), H', ⟨by have := HJ4.out; have := HK2.out; have := HK3.out; omega⟩, ⟨by (with_reducible repeat (first | apply Kd.R_alloc | apply Kd.R_drewN | apply Kd.R_drew)); exact Kd.R_mono (Kd.R_far (p := ⟨gb654, 1, none⟩) (Kd.R_far (p := ⟨gb654, 0, none⟩) (Kd.R_far (p := ⟨gb653, 1, none⟩) (Kd.R_far (p := ⟨gb653, 0, none⟩) (Kd.R_types (Kd.R_types HO667.out BK653.out (by decide)) BK654.out (by decide)) (fun _ hk => hk.1.2) (.bool t664)) (fun _ hk => hk.1.2) (.slice Ao49 t665.length co49)) (fun _ hk => hk.2) (.bool x654000_3)) (fun _ hk => hk.2) (.slice Ao43 x654001_3.length co43)) (fun _ hk => hk.1.1.1.1.1.2)⟩, ⟨by (with_reducible repeat (first | apply Kd.R_alloc | apply Kd.R_drewN | apply Kd.R_drew)); exact Kd.R_mono (Kd.R_far (p := ⟨gb654, 1, none⟩) (Kd.R_far (p := ⟨gb654, 0, none⟩) (Kd.R_far (p := ⟨gb653, 1, none⟩) (Kd.R_far (p := ⟨gb653, 0, none⟩) (Kd.R_types (Kd.R_types HO_654001.out BK653.out (by decide)) BK654.out (by decide)) (fun _ hk => hk.1.2) (.bool t664)) (fun _ hk => hk.1.2) (.slice Ao49 t665.length co49)) (fun _ hk => hk.2) (.bool x654000_3)) (fun _ hk => hk.2) (.slice Ao43 x654001_3.length co43)) (fun _ hk => hk.1.1.2)⟩, ⟨by (with_reducible repeat (first | refine blk_drewN ?_ _ | refine blk_drew ?_ | refine blk_alloc ?_ _)); refine blk_far ?_ NB641_654.out _; (with_reducible repeat (first | refine blk_drewN ?_ _ | refine blk_drew ?_ | refine blk_alloc ?_ _)); refine blk_far ?_ NB641_654.out _; (with_reducible repeat (first | refine blk_drewN ?_ _ | refine blk_drew ?_ | refine blk_alloc ?_ _)); refine blk_far ?_ NB641_653.out _; (with_reducible repeat (first | refine blk_drewN ?_ _ | refine blk_drew ?_ | refine blk_alloc ?_ _)); refine blk_far ?_ NB641_653.out _; (with_reducible repeat (first | refine blk_drewN ?_ _ | refine blk_drew ?_ | refine blk_alloc ?_ _)); exact BK641.out⟩, ⟨by (with_reducible repeat (first | refine blk_drewN ?_ _ | refine blk_drew ?_ | refine blk_alloc ?_ _)); refine blk_far ?_ NB653_654.out _; (with_reducible repeat (first | refine blk_drewN ?_ _ | refine blk_drew ?_ | refine blk_alloc ?_ _)); refine blk_far ?_ NB653_654.out _; (with_reducible repeat (first | refine blk_drewN ?_ _ | refine blk_drew ?_ | refine blk_alloc ?_ _)); refine blk_put (cs := #[.bool t664, .slice Ao43 x654001_3.length co43]) ?_ 1 _ rfl; (with_reducible repeat (first | refine blk_drewN ?_ _ | refine blk_drew ?_ | refine blk_alloc ?_ _)); refine blk_put (cs := #[.bool x654000_3, .slice Ao43 x654001_3.length co43]) ?_ 0 _ rfl; (with_reducible repeat (first | refine blk_drewN ?_ _ | refine blk_drew ?_ | refine blk_alloc ?_ _)); exact BK653.out⟩, ⟨by (with_reducible repeat (first | refine blk_drewN ?_ _ | refine blk_drew ?_ | refine blk_alloc ?_ _)); refine blk_put (cs := #[.bool x654000_3, .slice Ao46 x655001_3.length co46]) ?_ 1 _ rfl; (with_reducible repeat (first | refine blk_drewN ?_ _ | refine blk_drew ?_ | refine blk_alloc ?_ _)); refine blk_put (cs := #[.bool x655000_3, .slice Ao46 x655001_3.length co46]) ?_ 0 _ rfl; (with_reducible repeat (first | refine blk_drewN ?_ _ | refine blk_drew ?_ | refine blk_alloc ?_ _)); refine blk_far ?_ NB654_653.out _; (with_reducible repeat (first | refine blk_drewN ?_ _ | refine blk_drew ?_ | refine blk_alloc ?_ _)); refine blk_far ?_ NB654_653.out _; (with_reducible repeat (first | refine blk_drewN ?_ _ | refine blk_drew ?_ | refine blk_alloc ?_ _)); exact BK654.out⟩, ⟨by repeat (first | (with_reducible first | exact HB.out | apply below_alloc | apply pw_below_drewN | apply below_drew1 | refine below_set ?_ GE641.out | refine below_set ?_ GE653.out | refine below_set ?_ GE654.out) | exact HB.out)⟩⟩
                            · rw [if_neg c36] at H
                              exact absurd H (by simp)
                          · rw [if_neg c35] at H
                            exact absurd H (by simp)
                        · rw [if_neg c34] at H
                          have c34b0 : decide (0 ≤ x7_3) = false := decide_eq_false c34
                          clear c34
                          replace H := Option.bind_eq_some_iff.mp H
                          obtain ⟨⟨t668, t669, t670⟩, A530, H⟩ := H
                          replace H : (some (t668, t669, t670)) = some (r1, r2, r3) := H
                          have A53 := Aside0.mk A530
                          clear A530
                          simp only [Option.some.injEq, Prod.mk.injEq] at H
                          obtain ⟨rfl, rfl, rfl⟩ := H
                          have hnb54 := NB653_641.out
                          have hnc54 := NB641_653.out
                          have hnb55 := NB653_654.out
                          have hnc55 := NB654_653.out
                          have hcz56_0 : wr.cell? ⟨gb653, 0, none⟩ = some (.bool x654000_3) := (blk_cell BK653.out 0).trans rfl
                          have hcz56_1 : wr.cell? ⟨gb653, 1, none⟩ = some (u654001) := (blk_cell BK653.out 1).trans rfl
                          have hfz56_0 := blk_frozen BK653.out 0
                          have hfz56_1 := blk_frozen BK653.out 1
                          have hnb57 := NB654_641.out
                          have hnc57 := NB641_654.out
                          have hcz58_0 : wr.cell? ⟨gb654, 0, none⟩ = some (.bool x655000_3) := (blk_cell BK654.out 0).trans rfl
                          have hcz58_1 : wr.cell? ⟨gb654, 1, none⟩ = some (u655001) := (blk_cell BK654.out 1).trans rfl
                          have hfz58_0 := blk_frozen BK654.out 0
                          have hfz58_1 := blk_frozen BK654.out 1
                          obtain ⟨Ao59, co59, eo59⟩ := Kd.R_slice HO_654001.out
                          subst eo59
                          obtain ⟨Ao60, co60, eo60⟩ := Kd.R_slice HO_655001.out
                          subst eo60
                          go_wp2_with (first | ((with_reducible refine gate_callee (f := 80) rfl ?_); refine goesL_ (some 69) rfl rfl Tryd.func80 (by kernel_rfl) rfl #[.agg #[.bool x654000_3, .slice Ao59 x654001_3.length co59], .agg #[.bool x655000_3, .slice Ao60 x655001_3.length co60]] rfl (by (try simp only [List.map_toArray, List.map_cons, List.map_nil]); first | done | rfl | (simp only [List.length_drop, List.length_take]; rfl)) ?_; (with_reducible refine (merinoref01_Lowest.calls k3 x654000_3 _ _ x654001_3 x655000_3 _ _ x655001_3 t668 t669 t670 _ ?side1 ?side2 ?side3 ?side4 A53.out).mono ?_); (case side1 => repeat (first | exact (Kd.R_reads' HO_654001.out).2.2 | (with_reducible refine Kd.C_alloc ?_ _) | (with_reducible refine Kd.C_drewN ?_ _) | (with_reducible refine Kd.C_drew ?_))); (case side2 => exact (Kd.R_reads' HO_654001.out).2.1); (case side3 => repeat (first | exact (Kd.R_reads' HO_655001.out).2.2 | (with_reducible refine Kd.C_alloc ?_ _) | (with_reducible refine Kd.C_drewN ?_ _) | (with_reducible refine Kd.C_drew ?_))); (case side4 => exact (Kd.R_reads' HO_655001.out).2.1); rintro e w61 ⟨rfl, hb⟩; refine ⟨_, rfl, ?_⟩; have n0_ := Aside0.mk (Kd.R_below (by (with_reducible repeat (first | apply Kd.R_alloc | apply Kd.R_drewN | apply Kd.R_drew)); exact HO_654001.out) hb); have n1_ := Aside0.mk (Kd.R_below (by (with_reducible repeat (first | apply Kd.R_alloc | apply Kd.R_drewN | apply Kd.R_drew)); exact HO_655001.out) hb); have n2_ := Aside0.mk (blk_below (g := gb641) (o := .cells #[.int .i64 x642000_2, .int .i64 x642001_2] 23 (0, 0)) (by (with_reducible repeat (first | refine blk_drewN ?_ _ | refine blk_drew ?_ | refine blk_alloc ?_ _)); exact BK641.out) hb); have n3_ := Aside0.mk (blk_below (g := gb653) (o := .cells #[.bool x654000_3, .slice Ao59 x654001_3.length co59] 31 (0, 0)) (by (with_reducible repeat (first | refine blk_drewN ?_ _ | refine blk_drew ?_ | refine blk_alloc ?_ _)); exact BK653.out) hb); have n4_ := Aside0.mk (blk_below (g := gb654) (o := .cells #[.bool x655000_3, .slice Ao60 x655001_3.length co60] 31 (0, 0)) (by (with_reducible repeat (first | refine blk_drewN ?_ _ | refine blk_drew ?_ | refine blk_alloc ?_ _)); exact BK654.out) hb); have n5_ := Aside0.mk (below_step (by repeat (first | (with_reducible first | exact HB.out | apply below_alloc | apply pw_below_drewN | apply below_drew1 | refine below_set ?_ GE641.out | refine below_set ?_ GE653.out | refine below_set ?_ GE654.out) | exact HB.out)) hb); clear HO_654001; clear HO_655001; clear BK641; clear BK653; clear BK654; clear HB; have HO_654001 := n0_; have HO_655001 := n1_; have BK641 := n2_; have BK653 := n3_; have BK654 := n4_; have HB := n5_; clear n0_ n1_ n2_ n3_ n4_ n5_; (try clear hb); (try clear hb2); (try clear hk); (try clear hi); have hcz62_0 : w61.cell? ⟨gb641, 0, none⟩ = some (.int .i64 x642000_2) := (blk_cell BK641.out 0).trans rfl; have hcz62_1 : w61.cell? ⟨gb641, 1, none⟩ = some (.int .i64 x642001_2) := (blk_cell BK641.out 1).trans rfl; have hfz62_0 := blk_frozen BK641.out 0; have hfz62_1 := blk_frozen BK641.out 1))
                          refine bodyPost_ret (results_ct rfl _ _ gb641 23 #[.int .i64 t668, .int .i64 t669] (0, 0) _ rfl (by (with_reducible repeat (first | refine blk_drewN ?_ _ | refine blk_drew ?_ | refine blk_alloc ?_ _)); refine blk_put (cs := #[.int .i64 t668, .int .i64 x642001_2]) ?_ 1 _ rfl; (with_reducible repeat (first | refine blk_drewN ?_ _ | refine blk_drew ?_ | refine blk_alloc ?_ _)); refine blk_put (cs := #[.int .i64 x642000_2, .int .i64 x642001_2]) ?_ 0 _ rfl; (with_reducible repeat (first | refine blk_drewN ?_ _ | refine blk_drew ?_ | refine blk_alloc ?_ _)); exact BK641.out) Tryd.underlying23 rfl (by kernel_rfl)) rfl ?_
                          exact ⟨by first | rfl | (simp [errW_none, errW_some] <;> rfl) | (simp only [← hji18]; first | rfl | (simp [errW_none, errW_some] <;> rfl)) | (simp [*, errW_none, errW_some] <;> rfl), by repeat (first | (with_reducible first | exact HB.out | apply below_alloc | apply pw_below_drewN | apply below_drew1 | refine below_set ?_ GE641.out | refine below_set ?_ GE653.out | refine below_set ?_ GE654.out) | exact HB.out)⟩
                  · rw [if_neg c20] at H
                    exact absurd H (by simp)
                · rw [if_neg c19] at H
                  exact absurd H (by simp)
end Go.Proofs.YtdjnneflpkllmaaDoor.Q

namespace Go.Proofs.Num
open Go.RowKit Go.Proofs.YtdjnneflpkllmaaDoorW.PrintWords Go.Proofs.YtdjnneflpkllmaaDoorW.PrintMore Go.Proofs.YtdjnneflpkllmaaDoor.Q
set_option linter.unusedVariables false
set_option linter.unusedSimpArgs false
theorem rfrom_l1 {l : List Int} (h : ∀ i, 1 ≤ i → i < l.length → 1 ≤ at_ l i) (h64 : ∀ i, -9223372036854775808 ≤ at_ l i ∧ at_ l i ≤ 9223372036854775807) (hl2 : l.length ≤ 64) : ∀ (m : Nat) (a b : Bool) (nl dl : List Int), m < l.length → Rep a nl (cont (l.drop m)).1 → Rep b dl (cont (l.drop m)).2 → nl.length + 6 * m ≤ 390 → dl.length + 6 * m ≤ 390 →
    Ev (fun k => merinoref01_FromPath.l1 k l ((m : Int) - 1) a nl b dl) (lowest (cont l).1 (cont l).2) := by
  intro m
  induction m with
  | zero =>
    intro a b nl dl hm Rn Rd ln ld
    rw [List.drop_zero] at Rn Rd
    have pos : 0 < (cont l).2 := by
      have one : l = at_ l 0 :: l.drop 1 := by have := drop_at (l := l) (i := 0) (by omega); simpa using this
      have := cont_pos (l.drop 1) ((cont_up h 0 1 (by omega) (by omega)).2)
      have e2 : (cont l).2 = (cont (l.drop 1)).1 := by rw [one]; simp [cont]
      omega
    have gd := Rd.good
    rw [show ((cont l).2.natAbs : Int) = (cont l).2 by omega] at gd
    have E := low_core_ok Rn gd pos (by omega) (by omega)
    have hb : b = false := by rw [Rd.sign]; exact decide_eq_false (by omega)
    subst hb
    refine Ev.step (f := fun k => (merinoref01_Lowest.f k a nl false dl).bind fun bt668 => some (bt668.1, bt668.2.1, bt668.2.2)) (fun k => by rw [merinoref01_FromPath.l1, if_neg (by omega)]) ?_
    refine Ev.bind (a := lowest (cont l).1 (cont l).2) ?_ (Ev.now _)
    exact Ev.congr (fun k => by rw [merinoref01_Lowest.f, if_neg (by decide)]) E
  | succ m ih =>
    intro a b nl dl hm Rn Rd ln ld
    obtain ⟨t0, t1⟩ := h64 m
    obtain ⟨r0, E0, R0, l0⟩ := of_ok t0 t1
    obtain ⟨r1, E1, R1, l1⟩ := times_ok R0 Rn (by omega)
    obtain ⟨r2, E2, R2, l2⟩ := plus_ok R1 Rd (by omega) (by omega)
    have st : cont (l.drop m) = (at_ l m * (cont (l.drop (m + 1))).1 + (cont (l.drop (m + 1))).2, (cont (l.drop (m + 1))).1) := by rw [drop_at (by omega)]; simp [cont]
    have E := ih _ a r2 nl (by omega) (by rw [st]; exact R2) (by rw [st]; exact Rn) (by omega) (by omega)
    refine Ev.step (f := fun k => (merinoref01_Of.f k (at_ l m)).bind fun bt656 => ((merinoref01_Times.f k bt656.1 bt656.2 a nl).bind fun bt660 => ((merinoref01_Plus.f k bt660.1 bt660.2 b dl).bind fun bt664 => (merinoref01_FromPath.l1 k l ((m : Int) - 1) bt664.1 bt664.2 a nl)))) (fun k => ?_) (Ev.bind E0 (Ev.bind E1 (Ev.bind E2 E)))
    rw [show ((m + 1 : Nat) : Int) - 1 = (m : Int) by omega, merinoref01_FromPath.l1, if_pos (by omega), if_pos (by omega), if_pos (by omega), rd_nat, wd64 (x := (m : Int) - 1) (by omega) (by omega)]
theorem rfrom_l0 {l : List Int} (h64 : ∀ i, -9223372036854775808 ≤ at_ l i ∧ at_ l i ≤ 9223372036854775807) (hl : 1 ≤ l.length) (hl2 : l.length ≤ 64) : ∀ (c i : Nat), l.length - i = c → i ≤ l.length → 1 ≤ i → (∀ j, 1 ≤ j → j < i → 1 ≤ at_ l j) →
    ∃ v, Ev (fun k => merinoref01_FromPath.l0 k l (i : Int)) v ∧ ((∀ j, 1 ≤ j → j < l.length → 1 ≤ at_ l j) → v = lowest (cont l).1 (cont l).2) ∧ (¬ (∀ j, 1 ≤ j → j < l.length → 1 ≤ at_ l j) → v = (0, 0, 2)) := by
  intro c
  induction c with
  | zero =>
    intro i hc hi h1 hs
    obtain rfl : i = l.length := by omega
    obtain ⟨m, hm⟩ : ∃ m : Nat, m + 1 = l.length := ⟨l.length - 1, by omega⟩
    refine ⟨_, ?_, fun _ => rfl, fun hp => (hp hs).elim⟩
    obtain ⟨t0, t1⟩ := h64 m
    obtain ⟨r0, E0, R0, l0⟩ := of_ok t0 t1
    obtain ⟨r1, E1, R1, l1⟩ := of_ok (x := 1) (by omega) (by omega)
    have dm : cont (l.drop m) = (at_ l m, 1) := by rw [drop_at (by omega), List.drop_eq_nil_of_le (by omega)]; simp [cont]
    have E := rfrom_l1 hs h64 hl2 m _ _ r0 r1 (by omega) (by rw [dm]; exact R0) (by rw [dm]; exact R1) (by omega) (by omega)
    refine Ev.step (f := fun k => (merinoref01_Of.f k (at_ l m)).bind fun bt645 => ((merinoref01_Of.f k 1).bind fun bt649 => (merinoref01_FromPath.l1 k l ((m : Int) - 1) bt645.1 bt645.2 bt649.1 bt649.2))) (fun k => ?_) (Ev.bind E0 (Ev.bind E1 E))
    rw [merinoref01_FromPath.l0, if_neg (by omega), wd64 (x := (l.length : Int) - 1) (by omega) (by omega), if_pos (by omega), if_pos (by omega), wd64 (x := (l.length : Int) - 2) (by omega) (by omega), show (l.length : Int) - 1 = (m : Int) by omega, show (l.length : Int) - 2 = (m : Int) - 1 by omega, rd_nat]
  | succ c ih =>
    intro i hc hi h1 hs
    by_cases hx : 1 ≤ at_ l i
    · obtain ⟨v, E, hv⟩ := ih (i + 1) (by omega) (by omega) (by omega) (fun j h1 h2 => by
        rcases Nat.lt_or_ge j i with h | h
        · exact hs j h1 h
        · obtain rfl : j = i := by omega
          exact hx)
      refine ⟨v, Ev.step (f := fun k => merinoref01_FromPath.l0 k l ((i + 1 : Nat) : Int)) (fun k => ?_) E, hv⟩
      rw [merinoref01_FromPath.l0, if_pos (by omega), if_pos (by omega), rd_nat, if_neg (by omega), wd64 (x := (i : Int) + 1) (by omega) (by omega)]
      rfl
    · refine ⟨(0, 0, 2), Ev.step (f := fun _ => some (0, 0, 2)) (fun k => ?_) (Ev.now _), fun hp => (hx (hp i h1 (by omega))).elim, fun _ => rfl⟩
      rw [merinoref01_FromPath.l0, if_pos (by omega), if_pos (by omega), rd_nat, if_pos (by omega)]
/-- FromPath of num and of the reference: the same. -/
theorem from_same {l : List Int} (h64 : ∀ i, -9223372036854775808 ≤ at_ l i ∧ at_ l i ≤ 9223372036854775807) (hmax : l.length ≤ 1000000) : ∃ v, Ev (fun k => num_FromPath.f k l) v ∧ Ev (fun k => merinoref01_FromPath.f k l) v := by
  by_cases c1 : l.length > 64
  · refine ⟨(0, 0, 3), ?_, ?_⟩
    · unfold num_FromPath.f
      simp only [if_pos (show (l.length : Int) > 64 by omega)]
      exact Ev.now _
    · unfold merinoref01_FromPath.f
      simp only [if_pos (show (l.length : Int) > 64 by omega)]
      exact Ev.now _
  · by_cases c2 : l.length = 0
    · refine ⟨(0, 0, 2), ?_, ?_⟩
      · unfold num_FromPath.f
        simp only [if_neg (show ¬ (l.length : Int) > 64 by omega), wd64 (x := (l.length : Int) - 1) (by omega) (by omega), if_pos (show (l.length : Int) - 1 < 0 by omega)]
        exact Ev.now _
      · unfold merinoref01_FromPath.f
        simp only [if_neg (show ¬ (l.length : Int) > 64 by omega), if_pos (show (l.length : Int) = 0 by omega)]
        exact Ev.step (f := fun _ => some (0, 0, 2)) (fun k => by rw [merinoref01_FromPath.j0, if_pos rfl]) (Ev.now _)
    · obtain ⟨v, E, g1, g2⟩ := from_l0 h64 (by omega) (by omega) l.length 0 rfl (by omega) (fun j h1 h2 => by omega)
      obtain ⟨u, F, f1, f2⟩ := rfrom_l0 h64 (by omega) (by omega) (l.length - 1) 1 rfl (by omega) (by omega) (fun j h1 h2 => by omega)
      obtain ⟨m, hm⟩ : ∃ m : Nat, m + 1 = l.length := ⟨l.length - 1, by omega⟩
      have hm1 : l.length - 1 = m := by omega
      refine ⟨v, ?_, ?_⟩
      · unfold num_FromPath.f
        simp only [if_neg (show ¬ (l.length : Int) > 64 by omega), wd64 (x := (l.length : Int) - 1) (by omega) (by omega), if_neg (show ¬ (l.length : Int) - 1 < 0 by omega)]
        exact E
      · have bad : Ev (fun k => merinoref01_FromPath.j0 k l true) (0, 0, 2) := Ev.step (f := fun _ => some (0, 0, 2)) (fun k => by rw [merinoref01_FromPath.j0, if_pos rfl]) (Ev.now _)
        have good : Ev (fun k => merinoref01_FromPath.j0 k l false) u := Ev.step (f := fun k => merinoref01_FromPath.l0 k l ((1 : Nat) : Int)) (fun k => by rw [merinoref01_FromPath.j0, if_neg (by decide)]; rfl) F
        have eu : ¬ (1 < l.length ∧ at_ l m = 1) → u = v := fun hn => by
          by_cases hs : ∀ j, 1 ≤ j → j < l.length → 1 ≤ at_ l j
          · rw [f1 hs, g1 ⟨hs, fun h1 h2 => hn ⟨h1, by rw [hm1] at h2; exact h2⟩⟩]
          · rw [f2 hs, g2 (fun hp => hs hp.1)]
        unfold merinoref01_FromPath.f
        by_cases h1 : 1 < l.length
        · simp only [if_neg (show ¬ (l.length : Int) > 64 by omega), if_neg (show ¬ (l.length : Int) = 0 by omega), if_pos (show (l.length : Int) > 1 by omega), show (l.length : Int) - 1 = (m : Int) by omega, wd64 (x := (m : Int)) (by omega) (by omega), if_pos (show 0 ≤ (m : Int) by omega), if_pos (show (m : Int) < (l.length : Int) by omega), rd_nat]
          by_cases h2 : at_ l m = 1
          · rw [h2, g2 (fun hp => by have := hp.2 h1; rw [hm1] at this; exact this h2)]
            exact bad
          · rw [show (at_ l m == 1) = false from beq_eq_false_iff_ne.mpr h2, ← eu (fun c => h2 c.2)]
            exact good
        · simp only [if_neg (show ¬ (l.length : Int) > 64 by omega), if_neg (show ¬ (l.length : Int) = 0 by omega), if_neg (show ¬ (l.length : Int) > 1 by omega)]
          rw [← eu (fun c => h1 c.1)]
          exact good
end Go.Proofs.Num

namespace Go.Proofs.Num
open Go.RowKit Go.Proofs.YtdjnneflpkllmaaDoorW.PrintLast Go.Proofs.YtdjnneflpkllmaaDoorW.PrintWords
set_option linter.unusedVariables false
set_option linter.unusedSimpArgs false
theorem below_draws {B : Nat} {a w : World} (h : Below B a w) (n : Nat) : Below B a (w.drewN n) := h.trans ⟨rfl, rfl, rfl, Nat.le_refl _, fun _ _ => rfl⟩
def cmpv (b1 b2 : Int) : Int := if b2 < b1 then -1 else if b1 < b2 then 1 else 0
theorem cmp_rest0 (a1 b1 a2 b2 : Int) (w : World) : Calls Tryd.prog 95 #[.agg #[.int .i64 a1, .int .i64 b1], .agg #[.int .i64 a2, .int .i64 b2]] w fun e w' => e = .returned (.int .i64 (if b2 < b1 then -1 else if b1 < b2 then 1 else 0)) ∧ Below w.heap.size w w' := by
  have hb := ((Below.refl w.heap.size w).alloc (Nat.le_refl _) (.cells #[.int .i64 a1, .int .i64 b1] 101)).alloc (by simp) (.cells #[.int .i64 a2, .int .i64 b2] 101)
  go_enter Tryd.func95, Tryd.ntmps95
  go_wp2
  all_goals go_ret
  all_goals refine ⟨?_, hb⟩
  all_goals first | rfl | (simp [*]; done) | (rw [if_neg (by omega), if_neg (by omega)])
theorem cmp_rest (a1 b1 a2 b2 : Int) (w : World) : Calls Tryd.prog 95 #[.agg #[.int .i64 a1, .int .i64 b1], .agg #[.int .i64 a2, .int .i64 b2]] w fun e w' => e = .returned (.int .i64 (cmpv b1 b2)) ∧ Below w.heap.size w w' := cmp_rest0 a1 b1 a2 b2 w
theorem cmpv_neg (b1 b2 : Int) : cmpv b1 b2 < 0 ↔ b2 < b1 := by unfold cmpv; split <;> (try split) <;> omega
/-- A row of pairs that is sorted where it lies. -/
def Rst (W : World) (g : Nat) (l : List (Int × Int)) : Prop :=
  ∃ cs ty, W.heap[g]? = some (.cells cs ty (0, 0)) ∧ 2 * l.length ≤ cs.size ∧ ∀ i x, l[i]? = some x → cs[i * 2]? = some (.int .i64 x.1) ∧ cs[i * 2 + 1]? = some (.int .i64 x.2)
theorem Rst.cell {W : World} {g : Nat} {l : List (Int × Int)} (h : Rst W g l) {i : Nat} {x : Int × Int} (hx : l[i]? = some x) : W.cell? ⟨g, i * 2, none⟩ = some (.int .i64 x.1) ∧ W.cell? ⟨g, i * 2 + 1, none⟩ = some (.int .i64 x.2) := by
  obtain ⟨cs, ty, hh, hn, hc⟩ := h
  obtain ⟨h1, h2⟩ := hc i x hx
  exact ⟨by simpa [World.cell?, hh] using h1, by simpa [World.cell?, hh] using h2⟩
theorem Rst.frozen {W : World} {g : Nat} {l : List (Int × Int)} (h : Rst W g l) (k : Nat) : W.frozen? ⟨g, k, none⟩ = false := by
  obtain ⟨cs, ty, hh, -⟩ := h
  simp [World.frozen?, hh]
theorem Rst.later {W W' : World} {g : Nat} {l : List (Int × Int)} (h : Rst W g l) (hg : g < W.heap.size) (hb : Below W.heap.size W W') : Rst W' g l := by
  obtain ⟨cs, ty, hh, r⟩ := h
  exact ⟨cs, ty, (hb.block g hg).trans hh, r⟩
theorem Rst.lt {W : World} {g : Nat} {l : List (Int × Int)} (h : Rst W g l) : g < W.heap.size := by
  obtain ⟨cs, ty, hh, r⟩ := h
  exact (Array.getElem?_eq_some_iff.1 hh).1
/-- Two neighbours change places. -/
def swp (l : List (Int × Int)) (m : Nat) : List (Int × Int) := match l[m]?, l[m + 1]? with
  | some x, some y => (l.set (m + 1) x).set m y
  | _, _ => l
/-- The inner loop. -/
def ins (a : Nat) : Nat → List (Int × Int) → List (Int × Int)
  | 0, l => l
  | m + 1, l => if a < m + 1 then
      match l[m]?, l[m + 1]? with
      | some x, some y => if x.2 < y.2 then ins a m (swp l m) else l
      | _, _ => l
    else l
theorem ins_go {a m : Nat} {l : List (Int × Int)} {x y : Int × Int} (h : a < m + 1) (hx : l[m]? = some x) (hy : l[m + 1]? = some y) (hxy : x.2 < y.2) : ins a (m + 1) l = ins a m (swp l m) := by
  simp [ins, h, hx, hy, hxy]
theorem ins_stop {a m : Nat} {l : List (Int × Int)} {x y : Int × Int} (hx : l[m]? = some x) (hy : l[m + 1]? = some y) (hxy : ¬ x.2 < y.2) : ins a (m + 1) l = l := by
  simp [ins, hx, hy, hxy]
/-- The outer loop: d steps from i on. -/
def outer (a : Nat) : Nat → Nat → List (Int × Int) → List (Int × Int)
  | 0, _, l => l
  | d + 1, i, l => outer a d (i + 1) (ins a i l)
theorem grown_below {W W' : World} {g : Nat} (h : Below W.heap.size W W') : W.grownBy W' (some g) := ⟨h.os, h.tape, h.output, h.size, fun k hk _ => h.block k hk⟩
theorem grown_trans {A B C : World} {g : Nat} (h : A.grownBy B (some g)) (k : B.grownBy C (some g)) : A.grownBy C (some g) :=
  ⟨k.os.trans h.os, k.tape.trans h.tape, k.output.trans h.output, Nat.le_trans h.size k.size, fun i hi hn => (k.block i (Nat.lt_of_lt_of_le hi h.size) hn).trans (h.block i hi hn)⟩
theorem grown_set (W : World) (g o : Nat) (v : Value) : W.grownBy (W.setCell ⟨g, o, none⟩ v) (some g) :=
  ⟨rfl, rfl, rfl, by simp [World.setCell], fun k _ hk => Below.heap_setCell _ _ _ k (fun e => hk (by rw [e]))⟩
theorem Rst.put {W : World} {g : Nat} {l : List (Int × Int)} (h : Rst W g l) (i : Nat) (x : Int × Int) : Rst ((W.setCell ⟨g, i * 2, none⟩ (.int .i64 x.1)).setCell ⟨g, i * 2 + 1, none⟩ (.int .i64 x.2)) g (l.set i x) := by
  obtain ⟨cs, ty, hh, hn, hc⟩ := h
  refine ⟨(cs.setIfInBounds (i * 2) (.int .i64 x.1)).setIfInBounds (i * 2 + 1) (.int .i64 x.2), ty, ?_, by simpa using hn, ?_⟩
  · simp [World.setCell, Array.getElem?_modify, hh]
  · intro j z hz
    have hj : j < l.length := by
      rcases Nat.lt_or_ge j l.length with h | h
      · exact h
      · rw [List.getElem?_eq_none (by simpa using h)] at hz; cases hz
    rw [List.getElem?_set] at hz
    simp only [Array.getElem?_setIfInBounds, Array.size_setIfInBounds]
    by_cases e : i = j
    · subst e
      rw [if_pos rfl, if_pos hj] at hz
      injection hz with hz
      subst hz
      exact ⟨by rw [if_neg (by omega), if_pos rfl, if_pos (by omega)], by rw [if_pos rfl, if_pos (by omega)]⟩
    · rw [if_neg e] at hz
      obtain ⟨h1, h2⟩ := hc j z hz
      exact ⟨by rw [if_neg (by omega), if_neg (by omega)]; exact h1, by rw [if_neg (by omega), if_neg (by omega)]; exact h2⟩
theorem Rst.drew {W : World} {g : Nat} {l : List (Int × Int)} (h : Rst W g l) : Rst W.drew g l := h
set_option maxRecDepth 100000 in
set_option maxHeartbeats 3200000 in
theorem insertion (g a b c : Nat) (l : List (Int × Int)) (W : World) (hR : Rst W g l) (ha : a ≤ b) (hb : b ≤ l.length) (hc : l.length ≤ c) (hl : l.length ≤ 1099511627776) :
    Calls Tryd.prog 128 #[.slice (some ⟨g, 0, none⟩) l.length c, .int .i64 a, .int .i64 b, .func (.func 95) #[] #[]] W fun e w' => e = .returned (.tuple #[]) ∧ W.grownBy w' (some g) ∧ Rst w' g (outer a (b - (a + 1)) (a + 1) l) := by
  obtain ⟨n, hn⟩ : ∃ n, n = l.length := ⟨_, rfl⟩
  rw [← hn] at hb hc hl ⊢
  have HN := Lib.hid hn
  clear hn
  have e0 : IntKind.i64.wrap ((a : Int) + 1) = ((a + 1 : Nat) : Int) := by rw [IntKind.wrap_i64]; omega
  go_enter Tryd.func128, Tryd.ntmps128
  go_wp2
  clear e0
  go_loopg [8] (b - a) (fun k x8 wr => ∃ (i : Nat) (l' : List (Int × Int)), x8 = .int .i64 i ∧ a + 1 ≤ i ∧ Rst wr g l' ∧ l'.length = n ∧ W.grownBy wr (some g) ∧ Hid (outer a (b - i) i l' = outer a (b - (a + 1)) (a + 1) l) ∧ Hid (b + 1 - i = k))
  case atStart => exact ⟨a + 1, l, rfl, Nat.le_refl _, hR, HN.out.symm, ⟨rfl, rfl, rfl, Nat.le_refl _, fun _ _ _ => rfl⟩, rfl, (show b + 1 - (a + 1) = b - a by omega)⟩
  case round =>
    obtain ⟨i, l', rfl, hi, hR', hl', hg', HO, HK⟩ := hrel
    by_cases hlt : i < b
    · have z0 : (i : Int) < (b : Int) := by omega
      go_wp2
      go_loopg [9] i (fun k x9 wx => ∃ (j : Nat) (l'' : List (Int × Int)), x9 = .int .i64 j ∧ j ≤ i ∧ Rst wx g l'' ∧ l''.length = n ∧ W.grownBy wx (some g) ∧ Hid (ins a j l'' = ins a i l') ∧ Hid (j = k))
      case atStart => exact ⟨i, l', rfl, Nat.le_refl _, hR', hl', hg', rfl, rfl⟩
      case round =>
        obtain ⟨j, l'', rfl, hji, hRx, hlx, hgx, HI, HJ⟩ := hrel
        by_cases hj : a < j
        · obtain ⟨m, rfl⟩ : ∃ m, j = m + 1 := ⟨j - 1, by omega⟩
          have y0 : decide ((a : Int) < (m : Int) + 1) = true := decide_eq_true (by omega)
          have e1 : IntKind.i64.wrap ((m : Int) + 1 - 1) = (m : Int) := by rw [IntKind.wrap_i64]; omega
          have e2 : ((m : Int) + 1).toNat = m + 1 := by omega
          obtain ⟨⟨xk, xv⟩, hx⟩ : ∃ x, l''[m]? = some x := ⟨_, List.getElem?_eq_getElem (by omega)⟩
          obtain ⟨⟨yk, yv⟩, hy⟩ : ∃ y, l''[m + 1]? = some y := ⟨_, List.getElem?_eq_getElem (by omega)⟩
          have hglt := hRx.lt
          have f0 : ∀ y, Below wr.heap.size wr y → y.cell? ⟨g, m * 2, none⟩ = some (.int .i64 xk) := fun y h => ((hRx.later hglt h).cell hx).1
          have f1 : ∀ y, Below wr.heap.size wr y → y.cell? ⟨g, m * 2 + 1, none⟩ = some (.int .i64 xv) := fun y h => ((hRx.later hglt h).cell hx).2
          have f2 : ∀ y, Below wr.heap.size wr y → y.cell? ⟨g, (m + 1) * 2, none⟩ = some (.int .i64 yk) := fun y h => ((hRx.later hglt h).cell hy).1
          have f3 : ∀ y, Below wr.heap.size wr y → y.cell? ⟨g, (m + 1) * 2 + 1, none⟩ = some (.int .i64 yv) := fun y h => ((hRx.later hglt h).cell hy).2
          have i0 : (m : Int) < (n : Int) := by omega
          have i1 : (m : Int) + 1 < (n : Int) := by omega
          have i2 : (0 : Int) ≤ (m : Int) + 1 := by omega
          have i3 : m < n := by omega
          have i4 : m + 1 < n := by omega
          have i5 : (0 : Int) ≤ (m : Int) := by omega
          have e3 : IntKind.i64.wrap (m : Int) = (m : Int) := by rw [IntKind.wrap_i64]; omega
          by_cases hxy : xv < yv
          · have y1 : decide (cmpv yv xv < 0) = true := decide_eq_true ((cmpv_neg yv xv).2 hxy)
            go_upto_region 4 with fail
            go_region_held3 (fun w' => Below wr.heap.size wr w') (repeat (first | assumption | exact Below.refl _ _ | apply Below.drew)) (first
              | (go_at_call 95; refine (cmp_rest _ _ _ _ _).mono ?_; rintro e y ⟨rfl, hy1⟩; have hk1 : Below wr.heap.size wr y := Below.trans (by assumption) (hy1.mono (Below.size (by assumption)))))
            clear f0 f1 f2 f3
            go_upto_region 6 with fail
            have hRy := hRx.later hglt hk1
            have c0 := (hRy.cell hx).1
            have c1 := (hRy.cell hx).2
            have c2 := (hRy.cell hy).1
            have c3 := (hRy.cell hy).2
            have d0 := hRy.frozen (m * 2)
            have d1 := hRy.frozen (m * 2 + 1)
            have d2 := hRy.frozen ((m + 1) * 2)
            have d3 := hRy.frozen ((m + 1) * 2 + 1)
            simp only at c0 c1 c2 c3
            refine start_ (n := 18) (S := fun w' => w' = y.drew) (ds := [15, 17]) #[false, false, false, false, false, false, false, false, false, false, false, false, false, false, false, false, false, false] (by kernel_rfl) rfl rfl rfl (fun hHeld => ?_)
            refine pure_ (i := 0) (N := some 37) (v := ?_) (a' := ?_) #[true, false, false, false, false, false, false, false, false, false, false, false, false, false, false, false, false, false] rfl rfl (by kernel_rfl) (fun _ _ _ h => h) (Or.inl ⟨by rfl, ?_⟩) ?_ ?_
            rotate_left
            · intro w'
              go_simp
              with_reducible rfl
            rotate_left
            · simp only [Act.put, List.setIfInBounds_toArray, List.set_cons_zero, List.set_cons_succ, i64_w, i32_w]
              rfl
            refine pure_ (i := 1) (N := some 38) (v := ?_) (a' := ?_) #[true, true, false, false, false, false, false, false, false, false, false, false, false, false, false, false, false, false] rfl rfl (by kernel_rfl) (fun _ _ _ h => h) (Or.inl ⟨by rfl, ?_⟩) ?_ ?_
            rotate_left
            · intro w'
              go_simp
              with_reducible rfl
            rotate_left
            · simp only [Act.put, List.setIfInBounds_toArray, List.set_cons_zero, List.set_cons_succ, i64_w, i32_w]
              rfl
            refine pure_ (i := 2) (N := some 39) (v := ?_) (a' := ?_) #[true, true, true, false, false, false, false, false, false, false, false, false, false, false, false, false, false, false] rfl rfl (by kernel_rfl) (fun _ _ _ h => h) (Or.inl ⟨by rfl, ?_⟩) ?_ ?_
            rotate_left
            · intro w'
              go_simp
              with_reducible rfl
            rotate_left
            · simp only [Act.put, List.setIfInBounds_toArray, List.set_cons_zero, List.set_cons_succ, i64_w, i32_w]
              rfl
            refine pure_ (i := 3) (N := some 40) (v := ?_) (a' := ?_) #[true, true, true, true, false, false, false, false, false, false, false, false, false, false, false, false, false, false] rfl rfl (by kernel_rfl) (fun _ _ _ h => h) (Or.inl ⟨by rfl, ?_⟩) ?_ ?_
            rotate_left
            · intro w'
              go_simp
              with_reducible rfl
            rotate_left
            · simp only [Act.put, List.setIfInBounds_toArray, List.set_cons_zero, List.set_cons_succ, i64_w, i32_w]
              rfl
            refine pure_ (i := 4) (N := some 41) (v := ?_) (a' := ?_) #[true, true, true, true, true, false, false, false, false, false, false, false, false, false, false, false, false, false] rfl rfl (by kernel_rfl) (fun _ _ _ h => h) (Or.inl ⟨by rfl, ?_⟩) ?_ ?_
            rotate_left
            · intro w'
              go_simp
              with_reducible rfl
            rotate_left
            · simp only [Act.put, List.setIfInBounds_toArray, List.set_cons_zero, List.set_cons_succ, i64_w, i32_w]
              rfl
            refine pure_ (i := 5) (N := some 42) (v := ?_) (a' := ?_) #[true, true, true, true, true, true, false, false, false, false, false, false, false, false, false, false, false, false] rfl rfl (by kernel_rfl) (fun _ _ _ h => h) (Or.inl ⟨by rfl, ?_⟩) ?_ ?_
            rotate_left
            · intro w'
              go_simp
              with_reducible rfl
            rotate_left
            · simp only [Act.put, List.setIfInBounds_toArray, List.set_cons_zero, List.set_cons_succ, i64_w, i32_w]
              rfl
            refine pure_ (i := 6) (N := some 43) (v := ?_) (a' := ?_) #[true, true, true, true, true, true, true, false, false, false, false, false, false, false, false, false, false, false] rfl rfl (by kernel_rfl) (fun _ _ _ h => h) (Or.inl ⟨by rfl, ?_⟩) ?_ ?_
            rotate_left
            · intro w'
              go_simp
              with_reducible rfl
            rotate_left
            · simp only [Act.put, List.setIfInBounds_toArray, List.set_cons_zero, List.set_cons_succ, i64_w, i32_w]
              rfl
            refine pure_ (i := 7) (N := some 44) (v := ?_) (a' := ?_) #[true, true, true, true, true, true, true, true, false, false, false, false, false, false, false, false, false, false] rfl rfl (by kernel_rfl) (fun _ _ _ h => h) (Or.inl ⟨by rfl, ?_⟩) ?_ ?_
            rotate_left
            · intro w'
              go_simp
              with_reducible rfl
            rotate_left
            · simp only [Act.put, List.setIfInBounds_toArray, List.set_cons_zero, List.set_cons_succ, i64_w, i32_w]
              rfl
            refine pure_ (i := 8) (N := some 45) (v := ?_) (a' := ?_) #[true, true, true, true, true, true, true, true, true, false, false, false, false, false, false, false, false, false] rfl rfl (by kernel_rfl) (fun _ _ _ h => h) (Or.inl ⟨by rfl, ?_⟩) ?_ ?_
            rotate_left
            · intro w'
              go_simp
              with_reducible rfl
            rotate_left
            · simp only [Act.put, List.setIfInBounds_toArray, List.set_cons_zero, List.set_cons_succ, i64_w, i32_w]
              rfl
            refine take_ (i := 9) (N := some 46) (v := ?_) (a' := ?_) #[true, true, true, true, true, true, true, true, true, true, false, false, false, false, false, false, false, false] rfl rfl (by kernel_rfl) (fun _ _ _ h => h) (Or.inl ⟨by rfl, ?_⟩) hHeld ?_ ?_
            rotate_left
            · rintro w' rfl
              go_simp
              with_reducible rfl
            rotate_left
            · simp only [Act.put, List.setIfInBounds_toArray, List.set_cons_zero, List.set_cons_succ, i64_w, i32_w]
              rfl
            refine pure_ (i := 10) (N := some 47) (v := ?_) (a' := ?_) #[true, true, true, true, true, true, true, true, true, true, true, false, false, false, false, false, false, false] rfl rfl (by kernel_rfl) (fun _ _ _ h => h) (Or.inl ⟨by rfl, ?_⟩) ?_ ?_
            rotate_left
            · intro w'
              go_simp
              with_reducible rfl
            rotate_left
            · simp only [Act.put, List.setIfInBounds_toArray, List.set_cons_zero, List.set_cons_succ, i64_w, i32_w]
              rfl
            refine pure_ (i := 11) (N := some 48) (v := ?_) (a' := ?_) #[true, true, true, true, true, true, true, true, true, true, true, true, false, false, false, false, false, false] rfl rfl (by kernel_rfl) (fun _ _ _ h => h) (Or.inl ⟨by rfl, ?_⟩) ?_ ?_
            rotate_left
            · intro w'
              go_simp
              with_reducible rfl
            rotate_left
            · simp only [Act.put, List.setIfInBounds_toArray, List.set_cons_zero, List.set_cons_succ, i64_w, i32_w]
              rfl
            refine pure_ (i := 12) (N := some 49) (v := ?_) (a' := ?_) #[true, true, true, true, true, true, true, true, true, true, true, true, true, false, false, false, false, false] rfl rfl (by kernel_rfl) (fun _ _ _ h => h) (Or.inl ⟨by rfl, ?_⟩) ?_ ?_
            rotate_left
            · intro w'
              go_simp
              with_reducible rfl
            rotate_left
            · simp only [Act.put, List.setIfInBounds_toArray, List.set_cons_zero, List.set_cons_succ, i64_w, i32_w]
              rfl
            refine take_ (i := 13) (N := some 50) (v := ?_) (a' := ?_) #[true, true, true, true, true, true, true, true, true, true, true, true, true, true, false, false, false, false] rfl rfl (by kernel_rfl) (fun _ _ _ h => h) (Or.inl ⟨by rfl, ?_⟩) hHeld ?_ ?_
            rotate_left
            · rintro w' rfl
              go_simp
              with_reducible rfl
            rotate_left
            · simp only [Act.put, List.setIfInBounds_toArray, List.set_cons_zero, List.set_cons_succ, i64_w, i32_w]
              rfl
            refine pure_ (i := 14) (N := some 51) (v := ?_) (a' := ?_) #[true, true, true, true, true, true, true, true, true, true, true, true, true, true, true, false, false, false] rfl rfl (by kernel_rfl) (fun _ _ _ h => h) (Or.inl ⟨by rfl, ?_⟩) ?_ ?_
            rotate_left
            · intro w'
              go_simp
              with_reducible rfl
            rotate_left
            · simp only [Act.put, List.setIfInBounds_toArray, List.set_cons_zero, List.set_cons_succ, i64_w, i32_w]
              rfl
            refine last_ (i := 15) (N := none) #[true, true, true, true, true, true, true, true, true, true, true, true, true, true, true, true, false, false] rfl rfl (by kernel_rfl) (by decide) (fun K hK => ?_)
            refine skip_ (w1 := ?_) (by rfl) rfl ?_ ?_
            rotate_left
            · go_simp
              with_reducible rfl
            refine hK.out _ _ ?_
            clear hK K
            refine pure_ (i := 16) (N := some 52) (v := ?_) (a' := ?_) #[true, true, true, true, true, true, true, true, true, true, true, true, true, true, true, true, true, false] rfl rfl (by kernel_rfl) (fun _ _ _ h => h) (Or.inl ⟨by rfl, ?_⟩) ?_ ?_
            rotate_left
            · intro w'
              go_simp
              with_reducible rfl
            rotate_left
            · simp only [Act.put, List.setIfInBounds_toArray, List.set_cons_zero, List.set_cons_succ, i64_w, i32_w]
              rfl
            refine last_ (i := 17) (N := none) #[true, true, true, true, true, true, true, true, true, true, true, true, true, true, true, true, true, true] rfl rfl (by kernel_rfl) (by decide) (fun K hK => ?_)
            refine skip_ (w1 := ?_) (by rfl) rfl ?_ ?_
            rotate_left
            · go_simp
              with_reducible rfl
            refine hK.out _ _ ?_
            clear hK K
            refine done_ (by kernel_rfl) ?_
            go_wp2
            go_roundg m
            case measure => have := HJ.out; omega
            case rel => exact ⟨m, _, rfl, by omega, (hRy.drew.put (m + 1) (xk, xv)).put m (yk, yv), by simp; exact hlx, grown_trans hgx (grown_trans (grown_below hk1) (grown_trans (B := y.drew) ⟨rfl, rfl, rfl, Nat.le_refl _, fun _ _ _ => rfl⟩ (grown_trans (grown_set _ _ _ _) (grown_trans (grown_set _ _ _ _) (grown_trans (grown_set _ _ _ _) (grown_set _ _ _ _)))))), (by
              have := HI.out
              rw [ins_go hj hx hy hxy] at this
              simp only [swp, hx, hy] at this
              exact this), rfl⟩
          · have y1 : decide (cmpv yv xv < 0) = false := decide_eq_false (fun h => hxy ((cmpv_neg yv xv).1 h))
            go_upto_region 4 with fail
            go_region_held3 (fun w' => Below wr.heap.size wr w') (repeat (first | assumption | exact Below.refl _ _ | apply Below.drew)) (first
              | (go_at_call 95; refine (cmp_rest _ _ _ _ _).mono ?_; rintro e y ⟨rfl, hy1⟩; have hk1 : Below wr.heap.size wr y := Below.trans (by assumption) (hy1.mono (Below.size (by assumption)))))
            go_wp2
            go_roundg (b - i)
            case measure => have := HK.out; omega
            case rel => exact ⟨i + 1, l'', by go_num, by omega, hRx.later hglt hk1, hlx, grown_trans hgx (grown_below hk1), (by
              have h1 := HO.out
              have h2 := HI.out
              rw [ins_stop hx hy (show ¬ xv < yv by omega)] at h2
              rw [show b - i = (b - (i + 1)) + 1 from by omega, outer, ← h2] at h1
              exact h1), (show b + 1 - (i + 1) = b - i by omega)⟩
        · have y0 : decide ((a : Int) < (j : Int)) = false := decide_eq_false (by omega)
          go_upto_region 4 with fail
          go_quiet (fail)
          go_wp2
          go_roundg (b - i)
          case measure => have := HK.out; omega
          case rel => exact ⟨i + 1, l'', by go_num, by omega, hRx, hlx, grown_trans hgx ⟨rfl, rfl, rfl, Nat.le_refl _, fun _ _ _ => rfl⟩, (by
              have h1 := HO.out
              have h2 := HI.out
              have h3 : ins a j l'' = l'' := by
                cases j with
                | zero => rfl
                | succ m => unfold ins; rw [if_neg (by omega)]
              rw [h3] at h2
              rw [show b - i = (b - (i + 1)) + 1 from by omega, outer, ← h2] at h1
              exact h1), (show b + 1 - (i + 1) = b - i by omega)⟩
    · have z0 : ¬ (i : Int) < (b : Int) := by omega
      go_wp2
      go_end0
      refine ⟨rfl, hg', ?_⟩
      have := HO.out
      rw [show b - i = 0 from by omega] at this
      rw [← this]
      exact hR'
end Go.Proofs.Num

namespace Go.Proofs.Num
open Go.RowKit Go.Proofs.YtdjnneflpkllmaaDoorW.PrintLast Go.Proofs.YtdjnneflpkllmaaDoorW.PrintWords
set_option linter.unusedVariables false
set_option linter.unusedSimpArgs false
set_option maxRecDepth 100000 in
theorem div4 (w : World) : Calls Tryd.prog 112 #[.int .u64 0, .int .u64 30, .int .u64 7] w fun e w' => e = .returned (.tuple #[.int .u64 4, .int .u64 2]) ∧ ∃ n, w' = w.drewN n := by
  go_enter Tryd.func112, Tryd.ntmps112
  go_wp2
  go_quiet (fail)
  go_wp2
  go_ret2
  exact ⟨by rfl, _, rfl⟩
set_option maxRecDepth 100000 in
theorem div1 (w : World) : Calls Tryd.prog 112 #[.int .u64 0, .int .u64 10, .int .u64 7] w fun e w' => e = .returned (.tuple #[.int .u64 1, .int .u64 3]) ∧ ∃ n, w' = w.drewN n := by
  go_enter Tryd.func112, Tryd.ntmps112
  go_wp2
  go_quiet (fail)
  go_wp2
  go_ret2
  exact ⟨by rfl, _, rfl⟩
set_option maxRecDepth 100000 in
theorem mul3 (w : World) : Calls Tryd.prog 114 #[.int .u64 10, .int .u64 3] w fun e w' => e = .returned (.tuple #[.int .u64 0, .int .u64 30]) ∧ w' = w := by
  go_enter Tryd.func114, Tryd.ntmps114
  go_wp2
  go_ret2
  exact ⟨by rfl, rfl⟩
set_option maxRecDepth 100000 in
theorem mul1 (w : World) : Calls Tryd.prog 114 #[.int .u64 10, .int .u64 1] w fun e w' => e = .returned (.tuple #[.int .u64 0, .int .u64 10]) ∧ w' = w := by
  go_enter Tryd.func114, Tryd.ntmps114
  go_wp2
  go_ret2
  exact ⟨by rfl, rfl⟩
theorem share4 (w : World) : Calls Tryd.prog 93 #[.int .i64 10, .int .i64 3, .int .i64 7] w fun e w' => e = .returned (.tuple #[.int .i64 4, .int .i64 2]) ∧ ∃ n, w' = w.drewN n := by
  go_enter Tryd.func93, Tryd.ntmps93
  go_wp2_with (first
    | (go_at_call 114; refine (mul3 _).mono ?_; rintro e w1 ⟨rfl, rfl⟩)
    | (go_at_call 112; refine (div4 _).mono ?_; rintro e w1 ⟨rfl, n, rfl⟩))
  go_ret2
  exact ⟨by rfl, _, rfl⟩
theorem share1 (w : World) : Calls Tryd.prog 93 #[.int .i64 10, .int .i64 1, .int .i64 7] w fun e w' => e = .returned (.tuple #[.int .i64 1, .int .i64 3]) ∧ ∃ n, w' = w.drewN n := by
  go_enter Tryd.func93, Tryd.ntmps93
  go_wp2_with (first
    | (go_at_call 114; refine (mul1 _).mono ?_; rintro e w1 ⟨rfl, rfl⟩)
    | (go_at_call 112; refine (div1 _).mono ?_; rintro e w1 ⟨rfl, n, rfl⟩))
  go_ret2
  exact ⟨by rfl, _, rfl⟩
theorem stable_small (g c : Nat) (l : List (Int × Int)) (W : World) (hR : Rst W g l) (hl : l.length < 20) (hc : l.length ≤ c) :
    Calls Tryd.prog 117 #[.slice (some ⟨g, 0, none⟩) l.length c, .int .i64 l.length, .func (.func 95) #[] #[]] W fun e w' => e = .returned (.tuple #[]) ∧ W.grownBy w' (some g) ∧ Rst w' g (outer 0 (l.length - 1) 1 l) := by
  have hi := insertion g 0 l.length c l W hR (Nat.zero_le _) (Nat.le_refl _) hc (by omega)
  obtain ⟨n, hn⟩ : ∃ n, n = l.length := ⟨_, rfl⟩
  rw [← hn] at hl hc hi ⊢
  have HI := Lib.hid hi
  clear hi hn hR
  have z0 : ¬ (20 : Int) ≤ (n : Int) := by omega
  have z1 : ¬ (20 : Int) < (n : Int) := by omega
  go_enter Tryd.func117, Tryd.ntmps117
  go_wp2
  refine wp_loop_once ?_
  go_wp2_with (go_at_call 128; refine HI.out.mono ?_; rintro e w1 ⟨rfl, hg, hR1⟩)
  refine wp_loop_once ?_
  go_wp2
  go_end0
  exact ⟨rfl, hg, hR1⟩
theorem weighed_alive (b : Nat) (w : World) (c0 : w.cell? ⟨b, 0, none⟩ = some (.int .i64 3)) (c1 : w.cell? ⟨b, 1, none⟩ = some (.int .i64 3)) (c2 : w.cell? ⟨b, 2, none⟩ = some (.int .i64 1)) :
    Calls Tryd.prog 92 #[.int .i64 10, .slice (some ⟨b, 0, none⟩) 3 3] w fun e w' => e = .returned (.tuple #[.int .i64 7, .int .i64 0]) ∧ ∃ n, w' = w.drewN n := by
  go_enter Tryd.func92, Tryd.ntmps92
  go_wp2
  refine wp_loop_rounds 4 ?_
  change Code.wp _ _ _ _ _
  go_wp2
  change Code.wp _ _ _ _ _
  go_wp2
  change Code.wp _ _ _ _ _
  go_wp2
  change Code.wp _ _ _ _ _
  go_wp2
  go_ret2
  exact ⟨rfl, 0, rfl⟩
theorem cell_two (w : World) (a b : Value) (t : TypeId) : ∀ j u, ([a, b] : List Value)[j]? = some u → (w.alloc (.cells #[a, b] t)).cell? ((⟨w.heap.size, 0, none⟩ : Addr).add j) = some u := by
  intro j u h
  have hh : (w.alloc (.cells #[a, b] t)).heap[w.heap.size]? = some (.cells #[a, b] t) := by show (w.heap.push _)[w.heap.size]? = _; simp
  match j, h with
  | 0, h => injection h with h; subst h; rw [show (⟨w.heap.size, 0, none⟩ : Addr).add 0 = ⟨w.heap.size, 0, none⟩ from rfl]; simp only [World.cell?, hh]; rfl
  | 1, h => injection h with h; subst h; rw [show (⟨w.heap.size, 0, none⟩ : Addr).add 1 = ⟨w.heap.size, 1, none⟩ from rfl]; simp only [World.cell?, hh]; rfl
  | n + 2, h => simp at h
theorem cell_two' (w : World) (s : Nat) (hs : w.heap.size = s) (a b : Value) (t : TypeId) : ∀ j u, ([a, b] : List Value)[j]? = some u → (w.alloc (.cells #[a, b] t)).cell? ((⟨s, 0, none⟩ : Addr).add j) = some u := by
  subst hs
  exact cell_two w a b t
theorem size_set' (W : World) (m p o : Nat) (v : Value) : ((W.drewN m).setCell ⟨p, o, none⟩ v).heap.size = W.heap.size := by simp [World.setCell, World.drewN]
theorem info101 : (Tryd.prog.info? 101).map (fun i => (i.zero, i.size, i.bytes)) = some (some (.agg #[.int .i64 0, .int .i64 0]), 2, 16) := by kernel_rfl
theorem sort3 (g c : Nat) (x y z : Int × Int) (W : World) (hR : Rst W g [x, y, z]) (hc : 3 ≤ c) :
    Calls Tryd.prog 94 #[.slice (some ⟨g, 0, none⟩) 3 c, .func (.func 95) #[] #[]] W fun e w' => e = .returned (.tuple #[]) ∧ W.grownBy w' (some g) ∧ Rst w' g (outer 0 2 1 [x, y, z]) := by
  have hs : Calls Tryd.prog 117 #[.slice (some ⟨g, 0, none⟩) 3 c, .int .i64 3, .func (.func 95) #[] #[]] W fun e w' => e = .returned (.tuple #[]) ∧ W.grownBy w' (some g) ∧ Rst w' g (outer 0 2 1 [x, y, z]) :=
    stable_small g c [x, y, z] W hR (show 3 < 20 by decide) hc
  go_enter Tryd.func94, Tryd.ntmps94
  go_wp2_with (go_at_call 117; refine hs.mono ?_; rintro e w1 ⟨rfl, hg, hR1⟩)
  go_end0
  exact ⟨rfl, hg, hR1⟩
theorem rst_own {W : World} {base e n c g : Nat} {l : List (Int × Int)} (h : W.ownsRow base e 2 (.slice (some ⟨g, 0, none⟩) n c) n (l.flatMap fun x => [.int .i64 x.1, .int .i64 x.2])) (hn : l.length = n) : Rst W g l ∧ n ≤ c ∧ base ≤ g := by
  obtain ⟨_, ⟨h0, _⟩ | ⟨g', cap, cur, e', hg, hh, hc, hm, hs, ht⟩⟩ := h
  · cases h0
  · injection e' with e1 _ e2
    injection e1 with e1
    injection e1 with e1
    subst e1 e2
    refine ⟨⟨cur, e, hh, by rw [hs]; omega, ?_⟩, hc, hg⟩
    have fl : ∀ (l : List (Int × Int)) (i : Nat) (x : Int × Int), l[i]? = some x → (l.flatMap fun x => [Value.int .i64 x.1, .int .i64 x.2])[i * 2]? = some (.int .i64 x.1) ∧ (l.flatMap fun x => [Value.int .i64 x.1, .int .i64 x.2])[i * 2 + 1]? = some (.int .i64 x.2) := by
      intro l
      induction l with
      | nil => intro i x h; cases h
      | cons y ys ih =>
        intro i x h
        cases i with
        | zero => injection h with h; subst h; exact ⟨rfl, rfl⟩
        | succ i =>
          have := ih i x h
          rw [show (i + 1) * 2 = i * 2 + 1 + 1 from by omega]
          exact this
    intro i x hx
    have hi : i < n := by
      rcases Nat.lt_or_ge i l.length with h | h
      · omega
      · rw [List.getElem?_eq_none h] at hx; cases hx
    obtain ⟨h0, h1⟩ := fl l i x hx
    rw [← ht, List.getElem?_take, if_pos (by omega), Array.getElem?_toList] at h0 h1
    exact ⟨h0, h1⟩
/-- The state between two rounds. -/
structure Ap (w W : World) (q0 q1 q2 : Int) (v : Value) (k : Nat) (xs : List Value) : Prop where
  below : Below w.heap.size w W
  parts : W.heap[w.heap.size]? = some (.cells #[.int .i64 q0, .int .i64 q1, .int .i64 q2] 3 (0, 0))
  rests : W.ownsRow (w.heap.size + 1) 101 2 v k xs
  size : w.heap.size + 1 ≤ W.heap.size
theorem Ap.cell {w W : World} {q0 q1 q2 : Int} {v : Value} {k : Nat} {xs : List Value} (h : Ap w W q0 q1 q2 v k xs) :
    W.cell? ⟨w.heap.size, 0, none⟩ = some (.int .i64 q0) ∧ W.cell? ⟨w.heap.size, 1, none⟩ = some (.int .i64 q1) ∧ W.cell? ⟨w.heap.size, 2, none⟩ = some (.int .i64 q2) ∧ ∀ i, W.frozen? ⟨w.heap.size, i, none⟩ = false := by
  have hh := h.parts
  exact ⟨by simp [World.cell?, hh], by simp [World.cell?, hh], by simp [World.cell?, hh], fun i => by simp [World.frozen?, hh]⟩
theorem own_ne {W : World} {base e size n p : Nat} {v : Value} {xs : List Value} (h : W.ownsRow base e size v n xs) (hp : p < base) : v.ownBlock ≠ some p := by
  rcases h.2 with ⟨rfl, _⟩ | ⟨g, cap, cur, rfl, hg, _⟩
  · simp [Value.ownBlock]
  · simp [Value.ownBlock]; omega
theorem Ap.set {w W : World} {q0 q1 q2 : Int} {v : Value} {k : Nat} {xs : List Value} (h : Ap w W q0 q1 q2 v k xs) (m o : Nat) (x : Int) :
    ((W.drewN m).setCell ⟨w.heap.size, o, none⟩ (.int .i64 x)).ownsRow (w.heap.size + 1) 101 2 v k xs :=
  h.rests.kept (row := some w.heap.size) ⟨rfl, rfl, rfl, by simp [World.setCell, World.drewN], fun j _ hj => Below.heap_setCell _ _ _ _ (fun e => hj (by rw [e]))⟩ (.inr (own_ne h.rests (by omega)))
theorem Ap.next {w W w2 : World} {q0 q1 q2 : Int} {v v' : Value} {k k' : Nat} {xs xs' : List Value} (h : Ap w W q0 q1 q2 v k xs) (m o : Nat) (x : Int) (ob : Obj) (r0 r1 r2 : Int)
    (hq : (#[.int .i64 q0, .int .i64 q1, .int .i64 q2] : Array Value).setIfInBounds o (.int .i64 x) = #[.int .i64 r0, .int .i64 r1, .int .i64 r2])
    (ho : w2.ownsRow (w.heap.size + 1) 101 2 v' k' xs') (hg : (((W.drewN m).setCell ⟨w.heap.size, o, none⟩ (.int .i64 x)).alloc ob).grownBy w2 v.ownBlock) : Ap w w2 r0 r1 r2 v' k' xs' := by
  have hs := h.size
  have hs1 : (((W.drewN m).setCell ⟨w.heap.size, o, none⟩ (.int .i64 x)).alloc ob).heap.size = W.heap.size + 1 := by simp [World.setCell, World.drewN, World.alloc]
  have hb : Below w.heap.size w (((W.drewN m).setCell ⟨w.heap.size, o, none⟩ (.int .i64 x)).alloc ob) := ((below_draws h.below m).setCell (Nat.le_refl _) _).alloc (by simp [World.setCell, World.drewN]; omega) _
  refine ⟨hb.grown hg (by rw [hs1]; omega) (fun j e => ?_), ?_, ho, ?_⟩
  · rcases h.rests.2 with ⟨rfl, _⟩ | ⟨g, cap, cur, rfl, hgg, _⟩
    · cases e
    · simp [Value.ownBlock] at e; omega
  · have e : (((W.drewN m).setCell ⟨w.heap.size, o, none⟩ (.int .i64 x)).alloc ob).heap[w.heap.size]? = some (.cells #[.int .i64 r0, .int .i64 r1, .int .i64 r2] 3 (0, 0)) := by
      rw [Below.heap_alloc _ _ _ (by simp [World.setCell, World.drewN]; omega)]
      simp only [World.setCell]
      rw [Array.getElem?_modify, if_pos rfl, show (W.drewN m).heap[w.heap.size]? = _ from h.parts]
      simp [hq]
    rw [← e]
    exact hg.block _ (by rw [hs1]; omega) (own_ne h.rests (by omega)).symm
  · have := hg.size
    rw [hs1] at this
    omega
set_option maxRecDepth 100000 in
set_option maxHeartbeats 3200000 in
theorem apportion_alive (b : Nat) (w : World) (hb : b < w.heap.size) (c0 : w.cell? ⟨b, 0, none⟩ = some (.int .i64 3)) (c1 : w.cell? ⟨b, 1, none⟩ = some (.int .i64 3)) (c2 : w.cell? ⟨b, 2, none⟩ = some (.int .i64 1)) :
    Calls Tryd.prog 47 #[.int .i64 10, .slice (some ⟨b, 0, none⟩) 3 3] w fun e w' => ∃ p, e = .returned (.tuple #[.slice (some ⟨p, 0, none⟩) 3 3, .int .i64 0]) ∧ p < w'.heap.size ∧ w'.cell? ⟨p, 0, none⟩ = some (.int .i64 4) ∧ w'.cell? ⟨p, 1, none⟩ = some (.int .i64 4) ∧ w'.cell? ⟨p, 2, none⟩ = some (.int .i64 2) ∧ Below w.heap.size w w' := by
  obtain ⟨i0, hi, hz0, hz1, hz2⟩ := info_parts info101
  have C0 := Lib.hid c0
  have C1 := Lib.hid c1
  have C2 := Lib.hid c2
  have hmk : ∀ w, (Instr.makeSlice 29 (.int .i64 3) (.int .i64 3)).run Tryd.prog w = .ok (.slice (some ⟨w.heap.size, 0, none⟩) 3 3) (w.alloc (.cells #[.int .i64 0, .int .i64 0, .int .i64 0] 3)) := fun _ => by kernel_rfl
  go_enter Tryd.func47, Tryd.ntmps47
  go_wp2_with (first
    | (go_at_call 92; refine (weighed_alive b _ C0.out C1.out C2.out).mono ?_; rintro e w1 ⟨rfl, n, rfl⟩))
  clear hmk
  have hb1 : Below w.heap.size w ((w.drewN n).alloc (.cells #[.int .i64 0, .int .i64 0, .int .i64 0] 3)) := (below_draws (Below.refl _ _) n).alloc (Nat.le_refl _) _
  have hp1 : ((w.drewN n).alloc (.cells #[.int .i64 0, .int .i64 0, .int .i64 0] 3)).heap[w.heap.size]? = some (.cells #[.int .i64 0, .int .i64 0, .int .i64 0] 3 (0, 0)) := by simp [World.alloc]
  have hs1 : w.heap.size < ((w.drewN n).alloc (.cells #[.int .i64 0, .int .i64 0, .int .i64 0] 3)).heap.size := by simp
  generalize ((w.drewN n).alloc (.cells #[.int .i64 0, .int .i64 0, .int .i64 0] 3)) = W1 at hb1 hp1 hs1 ⊢
  have HB1 := Lib.hid hb1
  have HS1 := Lib.hid hs1
  have b0 : W1.cell? ⟨b, 0, none⟩ = some (.int .i64 3) := (hb1.cell (p := ⟨b, 0, none⟩) hb).trans c0
  have q0 : W1.cell? ⟨w.heap.size, 0, none⟩ = some (.int .i64 0) := by simp [World.cell?, hp1]
  have q1 : W1.frozen? ⟨w.heap.size, 0, none⟩ = false := by simp [World.frozen?, hp1]
  have A0 : Ap w W1 0 0 0 (.slice none 0 0) 0 [] := ⟨hb1, hp1, World.ownsRow_nil _ _ _ _, hs1⟩
  clear hb1 hp1 hs1 HB1 HS1 b0 q0 q1 c0 c1 c2
  refine wp_loop_rounds 4 ?_
  change Code.wp _ _ _ _ _
  obtain ⟨p0, p1, p2, pf⟩ := A0.cell
  have pf0 := pf 0
  have b0 : W1.cell? ⟨b, 0, none⟩ = some (.int .i64 3) := (A0.below.cell (p := ⟨b, 0, none⟩) hb).trans C0.out
  clear pf
  have hA0 := Lib.hid A0
  clear A0
  go_wp2_with (first
    | (go_at_call 93; refine (share4 _).mono ?_; rintro e w1 ⟨rfl, n1, rfl⟩)
    | (at_builtin; refine wpList_append_own _ rfl _ _ 98 rfl (w.heap.size + 1) 101 i0 (.agg #[.int .i64 0, .int .i64 0]) 2 16 Tryd.underlying98 hi hz0 hz1 hz2 rfl (by decide) _ _ _ rfl ((hA0.out.set n1 0 4).alloc _) ⟨W1.heap.size, 0, none⟩ 1 1 [.int .i64 0, .int .i64 2] rfl rfl (cell_two' _ _ (size_set' _ _ _ _ _) _ _ _) (by simp [Value.oneCell']) (by unfold maxLen; omega) (by omega) (by have := hA0.out.size; simp; omega) ?_; intro v1 W2 hown1 hgrow1 _; have A1 := hA0.out.next n1 0 4 _ 4 0 0 rfl hown1 hgrow1))
  clear b0 pf0 p0 p1 p2
  change Code.wp _ _ _ _ _
  obtain ⟨g1, k1, rfl⟩ := ownsRow_succ hown1
  obtain ⟨p0, p1, p2, pf⟩ := A1.cell
  have pf0 := pf 1
  have b0 : W2.cell? ⟨b, 1, none⟩ = some (.int .i64 3) := (A1.below.cell (p := ⟨b, 1, none⟩) hb).trans C1.out
  clear pf hown1 hgrow1
  have hA1 := Lib.hid A1
  clear A1
  go_wp2_with (first
    | (go_at_call 93; refine (share4 _).mono ?_; rintro e w1 ⟨rfl, n2, rfl⟩)
    | (at_builtin; refine wpList_append_own _ rfl _ _ 98 rfl (w.heap.size + 1) 101 i0 (.agg #[.int .i64 0, .int .i64 0]) 2 16 Tryd.underlying98 hi hz0 hz1 hz2 rfl (by decide) _ _ _ rfl ((hA1.out.set n2 1 4).alloc _) ⟨W2.heap.size, 0, none⟩ 1 1 [.int .i64 1, .int .i64 2] rfl rfl (cell_two' _ _ (size_set' _ _ _ _ _) _ _ _) (by simp [Value.oneCell']) (by unfold maxLen; omega) (by omega) (by have := hA1.out.size; simp; omega) ?_; intro v2 W3 hown2 hgrow2 _; have A2 := hA1.out.next n2 1 4 _ 4 4 0 rfl hown2 hgrow2))
  clear b0 pf0 p0 p1 p2
  change Code.wp _ _ _ _ _
  obtain ⟨g2, k2, rfl⟩ := ownsRow_succ hown2
  obtain ⟨p0, p1, p2, pf⟩ := A2.cell
  have pf0 := pf 2
  have b0 : W3.cell? ⟨b, 2, none⟩ = some (.int .i64 1) := (A2.below.cell (p := ⟨b, 2, none⟩) hb).trans C2.out
  clear pf hown2 hgrow2
  have hA2 := Lib.hid A2
  clear A2
  go_wp2_with (first
    | (go_at_call 93; refine (share1 _).mono ?_; rintro e w1 ⟨rfl, n3, rfl⟩)
    | (at_builtin; refine wpList_append_own _ rfl _ _ 98 rfl (w.heap.size + 1) 101 i0 (.agg #[.int .i64 0, .int .i64 0]) 2 16 Tryd.underlying98 hi hz0 hz1 hz2 rfl (by decide) _ _ _ rfl ((hA2.out.set n3 2 1).alloc _) ⟨W3.heap.size, 0, none⟩ 1 1 [.int .i64 2, .int .i64 3] rfl rfl (cell_two' _ _ (size_set' _ _ _ _ _) _ _ _) (by simp [Value.oneCell']) (by unfold maxLen; omega) (by omega) (by have := hA2.out.size; simp; omega) ?_; intro v3 W4 hown3 hgrow3 _; have A3 := hA2.out.next n3 2 1 _ 4 4 1 rfl hown3 hgrow3))
  clear b0 pf0 p0 p1 p2
  obtain ⟨g3, k3, rfl⟩ := ownsRow_succ hown3
  obtain ⟨hR, hk3, hg3⟩ := rst_own (l := [(0, 2), (1, 2), (2, 3)]) hown3 rfl
  have hR' := Lib.hid hR
  have hA3 := Lib.hid A3
  have hglt := hR.lt
  clear hown3 hgrow3 A3 hR
  change Code.wp _ _ _ _ _
  go_upto_region 18 with (first
    | (go_at_call 94; refine (sort3 g3 k3 _ _ _ _ hR'.out hk3).mono ?_; rintro e W5 ⟨rfl, hg5, hR5⟩))
  obtain ⟨p0, p1, p2, pf⟩ := hA3.out.cell
  have ne3 : w.heap.size ≠ g3 := by omega
  have eP : W5.heap[w.heap.size]? = W4.heap[w.heap.size]? := hg5.block _ (by have := hA3.out.size; omega) (by simpa using ne3)
  have P := eP.trans hA3.out.parts
  have hb5 : Below w.heap.size w W5 := hA3.out.below.grown hg5 (by have := hA3.out.size; omega) (fun k e => by cases e; omega)
  have hR5' : Rst W5 g3 [(2, 3), (0, 2), (1, 2)] := hR5
  have z0 := (hR5'.cell (i := 0) rfl).1
  have z1 := (hR5'.cell (i := 0) rfl).2
  have hs5 := hR5'.lt
  simp only [Nat.zero_mul, Nat.zero_add] at z0 z1
  have y2 : W5.cell? ⟨w.heap.size, 2, none⟩ = some (.int .i64 1) := by simp [World.cell?, P]
  have y3 : W5.frozen? ⟨w.heap.size, 2, none⟩ = false := by simp [World.frozen?, P]
  have P' := Lib.hid P
  have hb5' := Lib.hid hb5
  have hs5p : w.heap.size < W5.heap.size := by omega
  clear P eP hR5 hR5' hb5 p0 p1 p2 pf hg5 hA0 hA1 hA2 hA3 hR'
  go_wp2
  refine wp_loop_rounds 2 ?_
  change Code.wp _ _ _ _ _
  go_wp2
  change Code.wp _ _ _ _ _
  go_wp2
  have F : ((W5.setCell ⟨w.heap.size, 2, none⟩ (.int .i64 2)).alloc (.cells #[.int .i64 2, .int .i64 3] 101)).heap[w.heap.size]? = some (.cells #[.int .i64 4, .int .i64 4, .int .i64 2] 3 (0, 0)) := by
    rw [Below.heap_alloc _ _ _ (by simp [World.setCell]; omega)]
    simp only [World.setCell]
    rw [Array.getElem?_modify, if_pos rfl, P'.out]
    rfl
  have hbF : Below w.heap.size w ((W5.setCell ⟨w.heap.size, 2, none⟩ (.int .i64 2)).alloc (.cells #[.int .i64 2, .int .i64 3] 101)) := (hb5'.out.setCell (Nat.le_refl _) _).alloc (by simp [World.setCell]; omega) _
  have F' := Lib.hid F
  clear F
  go_ret2
  have F := F'.out
  exact ⟨w.heap.size, rfl, (Array.getElem?_eq_some_iff.1 F).1, by simp [World.cell?, F], by simp [World.cell?, F], by simp [World.cell?, F], hbF⟩
/-- Two lists of three are the same. -/
theorem same_alive (b p : Nat) (w : World) (c0 : w.cell? ⟨p, 0, none⟩ = some (.int .i64 4)) (c1 : w.cell? ⟨p, 1, none⟩ = some (.int .i64 4)) (c2 : w.cell? ⟨p, 2, none⟩ = some (.int .i64 2))
    (d0 : w.cell? ⟨b, 0, none⟩ = some (.int .i64 4)) (d1 : w.cell? ⟨b, 1, none⟩ = some (.int .i64 4)) (d2 : w.cell? ⟨b, 2, none⟩ = some (.int .i64 2)) :
    Calls Tryd.prog 41 #[.slice (some ⟨p, 0, none⟩) 3 3, .slice (some ⟨b, 0, none⟩) 3 3] w fun e w' => e = .returned (.bool true) ∧ ∃ n, w' = w.drewN n := by
  go_enter Tryd.func41, Tryd.ntmps41
  go_wp2
  refine wp_loop_rounds 4 ?_
  change Code.wp _ _ _ _ _
  go_wp2
  go_quiet (fail)
  go_wp2
  change Code.wp _ _ _ _ _
  go_wp2
  go_quiet (fail)
  go_wp2
  change Code.wp _ _ _ _ _
  go_wp2
  go_quiet (fail)
  go_wp2
  change Code.wp _ _ _ _ _
  go_wp2
  go_ret
  exact ⟨rfl, _, rfl⟩
end Go.Proofs.Num

namespace Go.Proofs
open Go.Shelf
def Tryd.lays105_ren : Go.Shelf.Ren := ⟨fun | 105 => 109 | 212 => 120 | 99 => 121 | 165 => 122 | 166 => 123 | 170 => 124 | 169 => 125 | 263 => 134 | 264 => 114 | 206 => 135 | 240 => 136 | 241 => 137 | 276 => 144 | 277 => 145 | n => n, fun | 9 => 9 | 3 => 3 | 4 => 4 | 20 => 20 | 0 => 0 | 46 => 119 | 109 => 120 | 5 => 5 | 72 => 126 | 76 => 130 | 51 => 143 | 146 => 144 | 53 => 81 | 148 => 112 | 70 => 123 | 37 => 124 | 75 => 129 | 127 => 146 | 164 => 151 | 80 => 133 | n => n, fun | n => n⟩
theorem Tryd.lays105 : Go.Proofs.Lays.n105 Tryd.prog Tryd.lays105_ren := {
  mixed := by kernel_rfl
  f99 := Tryd.func121.trans (congrArg some (by kernel_rfl))
  f105 := Tryd.func109.trans (congrArg some (by kernel_rfl))
  f165 := Tryd.func122.trans (congrArg some (by kernel_rfl))
  f166 := Tryd.func123.trans (congrArg some (by kernel_rfl))
  f169 := Tryd.func125.trans (congrArg some (by kernel_rfl))
  f170 := Tryd.func124.trans (congrArg some (by kernel_rfl))
  f206 := Tryd.func135.trans (congrArg some (by kernel_rfl))
  f212 := Tryd.func120.trans (congrArg some (by kernel_rfl))
  f240 := Tryd.func136.trans (congrArg some (by kernel_rfl))
  f241 := Tryd.func137.trans (congrArg some (by kernel_rfl))
  f263 := Tryd.func134.trans (congrArg some (by kernel_rfl))
  f264 := Tryd.func114.trans (congrArg some (by kernel_rfl))
  f276 := Tryd.func144.trans (congrArg some (by kernel_rfl))
  f277 := Tryd.func145.trans (congrArg some (by kernel_rfl))
  t0 := Tryd.underlying0
  a0 := Tryd.isAgg0
  z0 := Tryd.sizeOf0
  v0 := Tryd.zeroValue0
  t3 := Tryd.underlying3
  a3 := Tryd.isAgg3
  z3 := Tryd.sizeOf3
  v3 := Tryd.zeroValue3
  t4 := Tryd.underlying4
  a4 := Tryd.isAgg4
  z4 := Tryd.sizeOf4
  v4 := Tryd.zeroValue4
  t5 := Tryd.underlying5
  a5 := Tryd.isAgg5
  z5 := Tryd.sizeOf5
  v5 := Tryd.zeroValue5
  t9 := Tryd.underlying9
  a9 := Tryd.isAgg9
  z9 := Tryd.sizeOf9
  v9 := Tryd.zeroValue9
  t20 := Tryd.underlying20
  a20 := Tryd.isAgg20
  z20 := Tryd.sizeOf20
  v20 := Tryd.zeroValue20
  t37 := Tryd.underlying124
  a37 := Tryd.isAgg124
  z37 := Tryd.sizeOf124
  v37 := Tryd.zeroValue124
  t46 := Tryd.underlying119
  a46 := Tryd.isAgg119
  z46 := Tryd.sizeOf119
  v46 := Tryd.zeroValue119
  t51 := Tryd.underlying143
  a51 := Tryd.isAgg143
  z51 := Tryd.sizeOf143
  v51 := Tryd.zeroValue143
  t53 := Tryd.underlying81
  a53 := Tryd.isAgg81
  z53 := Tryd.sizeOf81
  v53 := Tryd.zeroValue81
  t70 := Tryd.underlying123
  a70 := Tryd.isAgg123
  z70 := Tryd.sizeOf123
  v70 := Tryd.zeroValue123
  t72 := Tryd.underlying126
  a72 := Tryd.isAgg126
  z72 := Tryd.sizeOf126
  v72 := Tryd.zeroValue126
  t75 := Tryd.underlying129
  a75 := Tryd.isAgg129
  z75 := Tryd.sizeOf129
  v75 := Tryd.zeroValue129
  t76 := Tryd.underlying130
  a76 := Tryd.isAgg130
  z76 := Tryd.sizeOf130
  v76 := Tryd.zeroValue130
  t109 := Tryd.underlying120
  a109 := Tryd.isAgg120
  z109 := Tryd.sizeOf120
  v109 := Tryd.zeroValue120
  t127 := Tryd.underlying146
  a127 := Tryd.isAgg146
  z127 := Tryd.sizeOf146
  v127 := Tryd.zeroValue146
  t146 := Tryd.underlying144
  a146 := Tryd.isAgg144
  z146 := Tryd.sizeOf144
  v146 := Tryd.zeroValue144
  t148 := Tryd.underlying112
  a148 := Tryd.isAgg112
  z148 := Tryd.sizeOf112
  v148 := Tryd.zeroValue112
  t164 := Tryd.underlying151
  a164 := Tryd.isAgg151
  z164 := Tryd.sizeOf151
  v164 := Tryd.zeroValue151 }
theorem Tryd.Builder_Extra_105 : Builder.Extra Tryd.prog Tryd.lays105_ren := {
  sizeBuilder := by kernel_rfl
  liesBuilder := by kernel_rfl
  t5 := Tryd.underlying5
  a5 := Tryd.isAgg5
  z5 := Tryd.sizeOf5
  v5 := Tryd.zeroValue5
  infoByte := by kernel_rfl
  cellsByte := by kernel_rfl
  sizeByte := by kernel_rfl
  neB5 := by decide }
open Go.RowKit Go.Lib in
open Go.RowKit Go.Lib in
open Go.RowKit Go.Lib in
open Go.RowKit Go.Lib in
open Go.RowKit Go.Lib in
open Go.RowKit Go.Lib in
open Go.RowKit Go.Lib in
/-- **strings.Repeat: count ≥ 0, the result within one allocation: count copies of s.** (LAID: no walk: one application.) -/
theorem Tryd.strings_Repeat (s : ByteArray) (c : Nat) (w : World) (hc : c ≤ 9223372036854775807) (hlen : s.size * c ≤ 140737488355328) :
    Calls Tryd.prog 109 #[.string s, .int .i64 c] w fun e w' => e = .returned (.string ⟨(Lib.repeatL s.data.toList c).toArray⟩) ∧ Below w.heap.size w w' := Any.strings_Repeat Tryd.lays105 Tryd.Builder_Extra_105 s c w hc hlen
end Go.Proofs

namespace Go.Proofs.Num
open Go.RowKit
set_option linter.unusedVariables false
set_option linter.unusedSimpArgs false
theorem size_alive (w : World) : Calls Tryd.prog 78 #[.int .i64 (-5)] w fun e w' => e = .returned (.int .u64 5) ∧ w' = w := by
  go_enter Tryd.func78, Tryd.ntmps78
  go_wp2
  go_ret
  exact ⟨by rfl, rfl⟩
set_option maxRecDepth 100000 in
theorem small_alive (w : World) : Calls Tryd.prog 130 #[.int .i64 5] w fun e w' => e = .returned (.string ⟨#[53]⟩) ∧ w' = w := by
  go_enter Tryd.func130, Tryd.ntmps130
  go_wp2
  go_ret
  exact ⟨by rfl, rfl⟩
set_option maxRecDepth 100000 in
theorem format_alive (w : World) : Calls Tryd.prog 108 #[.int .u64 5, .int .i64 10] w fun e w' => e = .returned (.string ⟨#[53]⟩) ∧ w' = w := by
  go_enter Tryd.func108, Tryd.ntmps108
  go_wp2_with (first
    | (go_at_call 130; refine (small_alive _).mono ?_; rintro e w1 ⟨rfl, rfl⟩)
    | go_in)
  go_ret
  exact ⟨by rfl, rfl⟩
theorem repeat_alive (w : World) : Calls Tryd.prog 109 #[.string ⟨#[48]⟩, .int .i64 2] w fun e w' => e = .returned (.string ⟨#[48, 48]⟩) ∧ Below w.heap.size w w' :=
  (Tryd.strings_Repeat ⟨#[48]⟩ 2 w (by decide) (by decide)).mono fun _ _ ⟨h1, h2⟩ => ⟨h1.trans (by rfl), h2⟩
set_option maxRecDepth 100000 in
set_option maxHeartbeats 1600000 in
theorem decimal_alive (w : World) : Calls Tryd.prog 72 #[.int .i64 (-5), .int .i64 2] w fun e w' => e = .returned (.tuple #[.string ⟨#[45, 48, 46, 48, 53]⟩, .int .i64 0]) ∧ Below w.heap.size w w' := by
  have e0 : (⟨#[48, 48]⟩ : ByteArray) ++ ⟨#[53]⟩ = ⟨#[48, 48, 53]⟩ := by decide
  go_enter Tryd.func72, Tryd.ntmps72
  go_upto_region 7 with (first
    | (go_at_call 78; refine (size_alive _).mono ?_; rintro e w1 ⟨rfl, rfl⟩)
    | (go_at_call 108; refine (format_alive _).mono ?_; rintro e w1 ⟨rfl, rfl⟩)
    | (go_at_call 109; refine (repeat_alive _).mono ?_; rintro e w1 ⟨rfl, hb⟩))
  go_quiet (fail)
  go_wp2
  go_ret2
  refine ⟨?_, hb.trans ⟨rfl, rfl, rfl, Nat.le_refl _, fun _ _ => rfl⟩⟩
  have e1 : (⟨#[45]⟩ : ByteArray) ++ ((⟨#[48, 48, 53]⟩ : ByteArray).extract 0 1 ++ ⟨#[46]⟩ ++ (⟨#[48, 48, 53]⟩ : ByteArray).extract 1 3) = ⟨#[45, 48, 46, 48, 53]⟩ := by decide
  exact congrArg (fun x => Ending.returned (.tuple #[.string x, .int .i64 0])) e1
end Go.Proofs.Num



namespace Go.Proofs.Num
open Go.RowKit Go.Proofs.YtdjnneflpkllmaaDoorW.PrintLast Go.Proofs.YtdjnneflpkllmaaDoorW.PrintWords Go.Proofs.YtdjnneflpkllmaaDoor.Q
set_option linter.unusedVariables false
set_option linter.unusedSimpArgs false
theorem best_alive (w : World) : Calls Tryd.prog 19 #[.int .i64 355, .int .i64 113, .int .i64 10] w fun e w' => e = .returned (.tuple #[.agg #[.int .i64 22, .int .i64 7], .int .i64 0]) ∧ Below w.heap.size w w' :=
  num_Best.calls 30 355 113 10 22 7 0 w (by kernel_rfl)
theorem valid_alive (w : World) : Calls Tryd.prog 26 #[.agg #[.int .i64 22, .int .i64 7]] w fun e w' => e = .returned (.bool true) ∧ Below w.heap.size w w' :=
  num_Valid.calls 30 22 7 true w (by kernel_rfl)
set_option maxRecDepth 100000 in
set_option maxHeartbeats 3200000 in
theorem alive_any (w : World) : Calls Tryd.prog 21 #[] w fun e w' => e = .returned (.bool true) ∧ Below w.heap.size w w' := by
  have hb0 : Below w.heap.size w (w.alloc (.cells #[.int .i64 3, .int .i64 3, .int .i64 1] 3)) := (Below.refl _ _).alloc (Nat.le_refl _) _
  have hh0 : (w.alloc (.cells #[.int .i64 3, .int .i64 3, .int .i64 1] 3)).heap[w.heap.size]? = some (.cells #[.int .i64 3, .int .i64 3, .int .i64 1] 3 (0, 0)) := by show (w.heap.push _)[w.heap.size]? = _; simp
  have AP := apportion_alive w.heap.size (w.alloc (.cells #[.int .i64 3, .int .i64 3, .int .i64 1] 3)) (by simp) ((blk_cell hh0 0).trans rfl) ((blk_cell hh0 1).trans rfl) ((blk_cell hh0 2).trans rfl)
  have HA := Lib.hid AP
  have HB0 := Lib.hid hb0
  clear AP hb0 hh0
  go_enter Tryd.func21, Tryd.ntmps21
  go_upto_region 3 with (first
    | (go_at_call 47; refine HA.out.mono ?_; rintro e w1 ⟨p, rfl, hp, y0, y1, y2, hb1⟩; have HY0 := Lib.hid y0; have HY1 := Lib.hid y1; have HY2 := Lib.hid y2; clear y0 y1 y2)
    | (go_at_call 19; refine (best_alive _).mono ?_; rintro e w2 ⟨rfl, hb2⟩))
  have hz2 : p < w2.heap.size := Nat.lt_of_lt_of_le hp hb2.size
  have y0 := (hb2.cell (p := ⟨p, 0, none⟩) hp).trans HY0.out
  have y1 := (hb2.cell (p := ⟨p, 1, none⟩) hp).trans HY1.out
  have y2 := (hb2.cell (p := ⟨p, 2, none⟩) hp).trans HY2.out
  have hbw : Below w.heap.size w w2 := (HB0.out.trans (hb1.mono (by simp))).trans (hb2.mono (HB0.out.trans (hb1.mono (by simp))).size)
  have hF : (w2.alloc (.cells #[.int .i64 22, .int .i64 7] 23)).heap[w2.heap.size]? = some (.cells #[.int .i64 22, .int .i64 7] 23 (0, 0)) := by show (w2.heap.push _)[w2.heap.size]? = _; simp
  have hbF : Below w2.heap.size w2 (w2.alloc (.cells #[.int .i64 22, .int .i64 7] 23)) := (Below.refl _ _).alloc (Nat.le_refl _) _
  have hsF : (w2.alloc (.cells #[.int .i64 22, .int .i64 7] 23)).heap.size = w2.heap.size + 1 := by simp
  clear hb1 hb2 hp HY0 HY1 HY2 HB0 HA
  generalize w2.alloc (.cells #[.int .i64 22, .int .i64 7] 23) = W at hF hbF hsF ⊢
  have SAME : ∀ w3, Below W.heap.size W w3 → Calls Tryd.prog 41 #[.slice (some ⟨p, 0, none⟩) 3 3, .slice (some ⟨w3.heap.size, 0, none⟩) 3 3] (w3.alloc (.cells #[.int .i64 4, .int .i64 4, .int .i64 2] 3)) fun e w' => e = .returned (.bool true) ∧ ∃ n, w' = (w3.alloc (.cells #[.int .i64 4, .int .i64 4, .int .i64 2] 3)).drewN n := by
    intro w3 h3
    have hh : (w3.alloc (.cells #[.int .i64 4, .int .i64 4, .int .i64 2] 3)).heap[w3.heap.size]? = some (.cells #[.int .i64 4, .int .i64 4, .int .i64 2] 3 (0, 0)) := by show (w3.heap.push _)[w3.heap.size]? = _; simp
    have hb : Below w2.heap.size w2 (w3.alloc (.cells #[.int .i64 4, .int .i64 4, .int .i64 2] 3)) := hbF.trans ((h3.alloc h3.size _).mono (by omega))
    exact same_alive _ _ _ ((hb.cell (p := ⟨p, 0, none⟩) hz2).trans y0) ((hb.cell (p := ⟨p, 1, none⟩) hz2).trans y1) ((hb.cell (p := ⟨p, 2, none⟩) hz2).trans y2) ((blk_cell hh 0).trans rfl) ((blk_cell hh 1).trans rfl) ((blk_cell hh 2).trans rfl)
  have FR : ∀ w3, Below W.heap.size W w3 → w3.cell? ⟨w2.heap.size, 0, none⟩ = some (.int .i64 22) ∧ w3.cell? ⟨w2.heap.size, 1, none⟩ = some (.int .i64 7) ∧ w2.heap.size < w3.heap.size := by
    intro w3 h3
    have hh := (h3.block w2.heap.size (by omega)).trans hF
    exact ⟨(blk_cell hh 0).trans rfl, (blk_cell hh 1).trans rfl, by have := h3.size; omega⟩
  have HS := Lib.hid SAME
  have HFR := Lib.hid FR
  have HW := Lib.hid (hbw.trans (hbF.mono hbw.size))
  have HWs : w.heap.size ≤ W.heap.size := HW.out.size
  clear SAME FR hF hbF hsF y0 y1 y2 hz2 hbw
  go_wp2_with (first
    | (go_at_call 72; refine (decimal_alive _).mono ?_; rintro e w3 ⟨rfl, hb3⟩; obtain ⟨f0, f1, f2⟩ := HFR.out w3 hb3; have hb3' := Lib.hid hb3; clear hb3)
    | (go_at_call 41; refine (HS.out w3 hb3'.out).mono ?_; rintro e w4 ⟨rfl, n, rfl⟩)
    | (go_at_call 26; refine (valid_alive _).mono ?_; rintro e w5 ⟨rfl, hb5⟩))
  go_ret
  have h1 := hb3'.out.size
  have hX : w.heap.size ≤ ((w3.alloc (.cells #[.int .i64 4, .int .i64 4, .int .i64 2] 3)).drewN n).heap.size := by
    show w.heap.size ≤ (w3.alloc _).heap.size
    simp
    omega
  exact ⟨rfl, HW.out.trans ((below_draws ((hb3'.out.alloc hb3'.out.size _).mono HWs) n).trans (hb5.mono hX))⟩
end Go.Proofs.Num

namespace Go.Proofs.YtdjnneflpkllmaaDoor.Q
open Go.RowKit Go.Proofs.YtdjnneflpkllmaaDoorW.PrintWords Go.Proofs.YtdjnneflpkllmaaDoorW.PrintLast Go.Proofs.YtdjnneflpkllmaaDoorW.PrintMore
attribute [local go_sem] max2_int min2_int max_two min_two max_three min_three max_four min_four   -- for this text's walks alone
set_option linter.unusedVariables false
set_option linter.unusedSimpArgs false
def merinolaw01_alive.f : Option Bool := some true
theorem merinolaw01_alive.calls (r : Bool) (w : World) (h : merinolaw01_alive.f = some r) : Calls Tryd.prog 21 #[] w fun e w' => e = .returned (.bool r) ∧ Below w.heap.size w w' := by
  obtain rfl : true = r := Option.some.inj h
  exact Go.Proofs.Num.alive_any w
end Go.Proofs.YtdjnneflpkllmaaDoor.Q

namespace Go.Proofs.YtdjnneflpkllmaaDoor.Q
open Go.RowKit Go.Proofs.YtdjnneflpkllmaaDoorW.PrintWords Go.Proofs.YtdjnneflpkllmaaDoorW.PrintLast Go.Proofs.YtdjnneflpkllmaaDoorW.PrintMore
attribute [local go_sem] max2_int min2_int max_two min_two max_three min_three max_four min_four   -- for this text's walks alone
set_option linter.unusedVariables false
set_option linter.unusedSimpArgs false
def merinolaw01_few.f (l0 : List Int) : Option (Bool) := some (decide ((l0.length : Int) ≤ 300))
set_option maxHeartbeats 8000000 in
set_option maxRecDepth 100000 in
theorem merinolaw01_few.calls (A0 : Option Addr) (c0 : Nat) (l0 : List Int) (r : Bool) (w : World) (hr0 : Kd.C (Kd.int .i64) w A0 l0.length l0) (hc0 : l0.length ≤ c0) (h : merinolaw01_few.f l0 = some r) :
    Calls Tryd.prog 35 #[.slice A0 l0.length c0] w fun e w' => e = .returned (.bool r) ∧ Drawn0 w w' := by
  have HR0 := Aside0.mk hr0
  have HC0 := Aside0.mk hc0
  clear hr0 hc0
  have H : (some (decide ((l0.length : Int) ≤ 300))) = some r := h
  clear h
  obtain rfl := Option.some.inj H
  go_enter Tryd.func35, Tryd.ntmps35
  go_wp2
  go_ret
  exact ⟨by first | rfl | (simp; done) | (simp [*]; done), by repeat (first | exact Drawn0.refl _ | apply Drawn0.step)⟩
end Go.Proofs.YtdjnneflpkllmaaDoor.Q

namespace Go.Proofs.YtdjnneflpkllmaaDoor.Q
open Go.RowKit Go.Proofs.YtdjnneflpkllmaaDoorW.PrintWords Go.Proofs.YtdjnneflpkllmaaDoorW.PrintLast Go.Proofs.YtdjnneflpkllmaaDoorW.PrintMore
attribute [local go_sem] max2_int min2_int max_two min_two max_three min_three max_four min_four   -- for this text's walks alone
set_option linter.unusedVariables false
set_option linter.unusedSimpArgs false
theorem cut_cap {P : Program} (t e : TypeId) (kh : IntKind) {i : TypeInfo} (ht : P.underlying t = some (.slice e)) (hi : P.info? e = some i) (A : Option Addr) (n c : Nat) (j : Int) (h0 : 0 ≤ j) (hm : j ≤ c) :
    ∀ W : World, (Instr.slice t (.slice A n c) none (some (.int kh j)) none).run P W = .ok (.slice A j.toNat c) W := by
  intro W
  have hel : P.elem t = e := by simp [Program.elem, ht]
  have hu : P.underlying t = some (.slice (P.elem t)) := by rw [hel]; exact ht
  have ha : (A.map fun x => x.add 0) = A := by cases A <;> simp [Addr.add]
  rw [run_slice_h W t A n c hu kh j h0 (by omega), hel]
  simp [sizeOf, typeInfo, hi, sliced, Result.andThen, ha]
set_option maxHeartbeats 8000000 in
set_option maxRecDepth 100000 in
theorem merinolaw01_kept.full (k : Nat) (A0 : Option Addr) (c0 : Nat) (l0 F : List Int) (A1 : Option Addr) (c1 : Nat) (l1 : List Int) (w : World) (hr0 : Kd.C (Kd.int .i64) w A0 l0.length l0) (hF : Kd.C (Kd.int .i64) w A0 F.length F) (hcF : F.length ≤ c0) (hlF : F.length = l1.length + 2) (hl0 : l0.length = l1.length) (hr1 : Kd.C (Kd.int .i64) w A1 l1.length l1) (hc1 : l1.length ≤ c1) (hsm : l1.length ≤ 1000000)
    (hs : merinolaw01_same.f k l0 l1 = some true) (m0 : rd F (l1.length : Int) = 77) (m1 : rd F ((l1.length : Int) + 1) = 77) :
    Calls Tryd.prog 42 #[.slice A0 l0.length c0, .slice A1 l1.length c1] w fun e w' => e = .returned (.bool true) ∧ Drawn0 w w' := by
  have HR0 := Aside0.mk hr0
  have hc0 : l0.length ≤ c0 := by omega
  have HC0 := Aside0.mk hc0
  have HR1 := Aside0.mk hr1
  have HC1 := Aside0.mk hc1
  have HR671 := Aside0.mk hF
  have HC671 := Aside0.mk hcF
  have A6 := Aside0.mk hs
  obtain ⟨ji3, hji3⟩ : ∃ j_ : Int, (wrap64 ((l1.length : Int) + 2)) = j_ := ⟨_, rfl⟩
  have hji3w : (IntKind.i64.wrap ((l1.length : Int) + 2)) = ji3 := (i64_w _).trans hji3
  have e3 : ji3 = (l1.length : Int) + 2 := by rw [← hji3]; unfold wrap64; omega
  obtain ⟨ji11, hji11⟩ : ∃ j_ : Int, (wrap64 ((l1.length : Int) + 1)) = j_ := ⟨_, rfl⟩
  have hji11w : (IntKind.i64.wrap ((l1.length : Int) + 1)) = ji11 := (i64_w _).trans hji11
  have e11 : ji11 = (l1.length : Int) + 1 := by rw [← hji11]; unfold wrap64; omega
  obtain ⟨i014, hi014, _, hsz14, _⟩ := info_parts info3
  have hcut14 := cut_cap (P := Tryd.prog) 29 3 .i64 Tryd.underlying29 hi014 A0 l0.length c0 ji3 (by omega) (by omega)
  rw [show ji3.toNat = F.length by omega] at hcut14
  have c4b1 : decide (0 ≤ (ji3)) = true := decide_eq_true (by omega)
  have c8b0 : decide (0 ≤ (l1.length : Int)) = true := decide_eq_true (by omega)
  have c9b0 : decide ((l1.length : Int) < (F.length : Int)) = true := decide_eq_true (by omega)
  have c9b1 : decide (l1.length < F.length) = true := decide_eq_true (by omega)
  have c10b0 : (rd F (l1.length : Int) == 77) = true := beq_iff_eq.mpr m0
  have c12b0 : decide (0 ≤ (ji11)) = true := decide_eq_true (by omega)
  have c13b0 : decide ((ji11) < (F.length : Int)) = true := decide_eq_true (by omega)
  have c14b0 : (rd F (ji11) == 77) = true := by rw [e11]; exact beq_iff_eq.mpr m1
  clear hr0 hF hcF hlF hl0 hr1 hc1 hsm hs m0 m1 hc0 e3 e11 hji3 hji11 hi014 hsz14
  go_enter Tryd.func42, Tryd.ntmps42
  go_wp2_with (first | ((with_reducible refine gate_callee (f := 41) rfl ?_); refine goesL_ (some 13) rfl rfl Tryd.func41 (by kernel_rfl) rfl #[.slice A0 l0.length c0, .slice A1 l1.length c1] rfl (by (try simp only [List.map_toArray, List.map_cons, List.map_nil]); first | done | rfl | (simp only [List.length_drop, List.length_take]; rfl)) ?_; (with_reducible refine (merinolaw01_same.calls k _ _ l0 _ _ l1 true _ ?side1 ?side2 ?side3 ?side4 A6.out).mono ?_); (case side1 => repeat (first | exact HR0.out | (with_reducible refine Kd.C_alloc ?_ _) | (with_reducible refine Kd.C_drewN ?_ _) | (with_reducible refine Kd.C_drew ?_))); (case side2 => exact HC0.out); (case side3 => repeat (first | exact HR1.out | (with_reducible refine Kd.C_alloc ?_ _) | (with_reducible refine Kd.C_drewN ?_ _) | (with_reducible refine Kd.C_drew ?_))); (case side4 => exact HC1.out); rintro e w' ⟨rfl, ⟨nd, rfl⟩⟩; refine ⟨_, rfl, ?_⟩; have p673 : 0 ≤ ((l1.length : Int) : Int) := of_decide_eq_true (by first | (with_reducible assumption) | assumption); have q673 : (l1.length : Int) < (F.length : Int) := of_decide_eq_true (by first | (with_reducible assumption) | assumption); obtain ⟨ad673, e673, hx673_0⟩ := Kd.at_int HR671.out (l1.length : Int) p673 q673; cases e673; (try simp only [Go.IntWalk.toNatUp] at hx673_0); replace p673 := eq_true p673; replace q673 := eq_true q673; have p674 : 0 ≤ ((ji11) : Int) := of_decide_eq_true (by first | (with_reducible assumption) | assumption); have q674 : (ji11) < (F.length : Int) := of_decide_eq_true (by first | (with_reducible assumption) | assumption); obtain ⟨ad674, e674, hx674_0⟩ := Kd.at_int HR671.out (ji11) p674 q674; obtain rfl : ad673 = ad674 := (by injection e674); replace p674 := eq_true p674; replace q674 := eq_true q674))
  go_ret
  exact ⟨by first | rfl | (simp; done) | (simp [*]; done), by repeat (first | exact Drawn0.refl _ | apply Drawn0.step)⟩
end Go.Proofs.YtdjnneflpkllmaaDoor.Q

namespace Go.Proofs.YtdjnneflpkllmaaDoor.Q
open Go.RowKit Go.Proofs.YtdjnneflpkllmaaDoorW.PrintWords Go.Proofs.YtdjnneflpkllmaaDoorW.PrintLast Go.Proofs.YtdjnneflpkllmaaDoorW.PrintMore
attribute [local go_sem] max2_int min2_int max_two min_two max_three min_three max_four min_four   -- for this text's walks alone
set_option linter.unusedVariables false
set_option linter.unusedSimpArgs false
theorem full_cap {c : Nat} {F l : List Int} (hc : F.length ≤ c) (e : F = l ++ [77, 77]) : l.length ≤ c := by
  have : F.length = l.length + 2 := by rw [e]; simp
  omega
theorem full_take {w : World} {A : Option Addr} {c : Nat} {F l : List Int} (h : Kd.C (Kd.int .i64) w A F.length F) (hc : F.length ≤ c) (e : F = l ++ [77, 77]) : Kd.C (Kd.int .i64) w A l.length l := by
  have hl : F.length = l.length + 2 := by rw [e]; simp
  obtain ⟨i0, hi0, _, hsz, _⟩ := info_parts info3
  obtain ⟨_, hA, _⟩ := print_take_of (P := Tryd.prog) (Value.int .i64) 0 29 3 .i64 Tryd.underlying29 hi0 hsz A c F (l.length : Int) (by omega) (by omega) hc
  have := Kd.C_of_reads (h1 := fun _ => rfl) (hA _ (Kd.reads_of_C h))
  have et : F.take ((l.length : Int)).toNat = l := by rw [e, Int.toNat_natCast, List.take_left']; rfl
  rw [et] at this
  exact this
theorem kept_whole (k : Nat) (A0 : Option Addr) (c0 : Nat) (F : List Int) (A1 : Option Addr) (c1 : Nat) (l1 : List Int) (w : World) (hF : Kd.C (Kd.int .i64) w A0 F.length F) (hcF : F.length ≤ c0) (hr1 : Kd.C (Kd.int .i64) w A1 l1.length l1) (hc1 : l1.length ≤ c1)
    (h : F = l1 ++ [77, 77] ∧ l1.length ≤ 1000000 ∧ merinolaw01_same.f k l1 l1 = some true) :
    Calls Tryd.prog 42 #[.slice A0 l1.length c0, .slice A1 l1.length c1] w fun e w' => e = .returned (.bool true) ∧ Drawn0 w w' := by
  obtain ⟨e, hsm, hs⟩ := h
  have hl : F.length = l1.length + 2 := by rw [e]; simp
  refine merinolaw01_kept.full k A0 c0 l1 F A1 c1 l1 w (full_take hF hcF e) hF hcF hl rfl hr1 hc1 hsm hs ?_ ?_
  · rw [e]; simp [rd]
  · rw [e, show (l1.length : Int) + 1 = ((l1.length + 1 : Nat) : Int) by omega]; simp [rd]
set_option maxHeartbeats 8000000 in
set_option maxRecDepth 100000 in
theorem merinolaw01_NumPaths.both (k : Nat) (a0_0 a0_1 : Int) (A1 : Option Addr) (c1 : Nat) (l1 t678 t681 : List Int) (t684 t689 t690 t691 : Int) (w : World) (hr1 : Kd.C (Kd.int .i64) w A1 l1.length l1) (hc1 : l1.length ≤ c1) (hsm : l1.length ≤ 1000000)
    (A30 : merinolaw01_few.f l1 = some true) (A50 : merinolaw01_fullc.f k l1 = some t678) (hf : t678 = l1 ++ [77, 77]) (A60 : num_Path.f k a0_0 a0_1 = some (t681, t684)) (A70 : merinoref01_Path.f k a0_0 a0_1 = some (t681, t684))
    (A80 : num_FromPath.f k l1 = some (t689, t690, t691)) (A90 : merinoref01_FromPath.f k l1 = some (t689, t690, t691)) (A100 : merinolaw01_same.f k t681 t681 = some true) (A150 : merinolaw01_same.f k l1 l1 = some true) :
    Calls Tryd.prog 8 #[.agg #[.int .i64 a0_0, .int .i64 a0_1], .slice A1 l1.length c1] w fun e w' => e = .returned (.bool true) ∧ Below w.heap.size w w' := by
  have hu23 := Tryd.underlying23
  have HR1 := Aside0.mk hr1
  have HC1 := Aside0.mk hc1
  have HB := Aside0.mk (Below.refl w.heap.size w)
  have HF := Aside0.mk hf
  have A3 := Aside0.mk A30
  have A5 := Aside0.mk A50
  have A6 := Aside0.mk A60
  have A7 := Aside0.mk A70
  have A8 := Aside0.mk A80
  have A9 := Aside0.mk A90
  have A10 := Aside0.mk A100
  have A15 : Aside0 (t678 = l1 ++ [77, 77] ∧ l1.length ≤ 1000000 ∧ merinolaw01_same.f k l1 l1 = some true) := ⟨hf, hsm, A150⟩
  have A170 : merinolaw01_alive.f = some true := rfl
  have A17 := Aside0.mk A170
  have y1 : (t684 == t684) = true := by simp
  have y2 : (t689 == t689) = true := by simp
  have y3 : (t690 == t690) = true := by simp
  have y4 : (t691 == t691) = true := by simp
  clear hr1 hc1 hsm A30 A50 hf A60 A70 A80 A90 A100 A150 A170
  go_enter Tryd.func8, Tryd.ntmps8
  go_wp2_with (first | ((with_reducible refine gate_dst (N := 2) rfl ?_); refine box_event ?hg (N := 2) ?hd (cs := #[.int .i64 a0_0, .int .i64 a0_1]) (t := 23) ?hr ?_; (case hd => rfl); (case hg => rfl); (case hr => first | (go_simp; done) | (go_simp; rfl)); intro gb675 hg w18 hbox hb; have n0_ := Aside0.mk (below_step (by repeat (first | (with_reducible first | exact HB.out | apply below_alloc | apply pw_below_drewN | apply below_drew1) | exact HB.out)) hb); have n1_ := Aside0.mk (hbox); have n2_ := Aside0.mk ((by rw [hg]; exact (below_size (by repeat (first | (with_reducible first | exact HB.out | apply below_alloc | apply pw_below_drewN | apply below_drew1) | exact HB.out))) : w.heap.size ≤ gb675)); have n3_ := Aside0.mk ((by rw [hg]; exact (below_size (by repeat (first | (with_reducible first | exact HB.out | apply below_alloc | apply pw_below_drewN | apply below_drew1) | exact HB.out))) : w.heap.size ≤ gb675)); clear HB; have HB := n0_; have BK675 := n1_; have GW675 := n2_; have GE675 := n3_; clear n0_ n1_ n2_ n3_; clear hb hbox hg) | ((with_reducible refine gate_callee (f := 35) rfl ?_); refine goesL_ (some 15) rfl rfl Tryd.func35 (by kernel_rfl) rfl #[.slice A1 l1.length c1] rfl (by (try simp only [List.map_toArray, List.map_cons, List.map_nil]); first | done | rfl | (simp only [List.length_drop, List.length_take]; rfl)) ?_; (with_reducible refine (merinolaw01_few.calls _ _ l1 true _ ?side1 ?side2 A3.out).mono ?_); (case side1 => repeat (first | exact (Kd.C_below HR1.out HB.out) | (with_reducible refine Kd.C_alloc ?_ _) | (with_reducible refine Kd.C_drewN ?_ _) | (with_reducible refine Kd.C_drew ?_))); (case side2 => exact HC1.out); rintro e w' ⟨rfl, ⟨nd, rfl⟩⟩; refine ⟨_, rfl, ?_⟩; (try (rw [drewN_self w18]; generalize hq_ : World.drewN w18 _ = w18; have n0_ : Aside0 (w18.heap[gb675]? = some (.cells #[.int .i64 a0_0, .int .i64 a0_1] 23 (0, 0))) := ⟨by rw [← hq_]; exact (by (with_reducible repeat (first | refine blk_drewN ?_ _ | refine blk_drew ?_ | refine blk_alloc ?_ _)); exact BK675.out)⟩; have n1_ : Aside0 (Below w.heap.size w w18) := ⟨by rw [← hq_]; exact (by repeat (first | (with_reducible first | exact HB.out | apply below_alloc | apply pw_below_drewN | apply below_drew1 | refine below_set ?_ GE675.out) | exact HB.out))⟩; clear BK675 HB hq_; have BK675 := n0_; have HB := n1_; clear n0_ n1_))) | ((with_reducible refine gate_callee (f := 36) rfl ?_); refine goesL_ (some 19) rfl rfl Tryd.func36 (by kernel_rfl) rfl #[.slice A1 l1.length c1] rfl (by (try simp only [List.map_toArray, List.map_cons, List.map_nil]); first | done | rfl | (simp only [List.length_drop, List.length_take]; rfl)) ?_; (with_reducible refine (merinolaw01_fullc.calls k _ _ l1 t678 _ ?side1 ?side2 A5.out).mono ?_); (case side1 => repeat (first | exact (Kd.C_below HR1.out HB.out) | (with_reducible refine Kd.C_alloc ?_ _) | (with_reducible refine Kd.C_drewN ?_ _) | (with_reducible refine Kd.C_drew ?_))); (case side2 => exact HC1.out); rintro e w19 ⟨Ao24, co24, rfl, ho0, hb⟩; refine ⟨_, rfl, ?_⟩; have n0_ := Aside0.mk (Kd.R_lower ho0 (below_size (by repeat (first | (with_reducible first | exact HB.out | apply below_alloc | apply pw_below_drewN | apply below_drew1 | refine below_set ?_ GE675.out) | exact HB.out)))); have n1_ := Aside0.mk (blk_below (g := gb675) (o := .cells #[.int .i64 a0_0, .int .i64 a0_1] 23 (0, 0)) (by (with_reducible repeat (first | refine blk_drewN ?_ _ | refine blk_drew ?_ | refine blk_alloc ?_ _)); exact BK675.out) hb); have n2_ := Aside0.mk (below_step (by repeat (first | (with_reducible first | exact HB.out | apply below_alloc | apply pw_below_drewN | apply below_drew1 | refine below_set ?_ GE675.out) | exact HB.out)) hb); clear BK675; clear HB; have HO680 := n0_; have BK675 := n1_; have HB := n2_; clear n0_ n1_ n2_; (try clear hb); (try clear hb2); (try clear hk); (try clear hi); (try clear ho0); have hcz20_0 : w19.cell? ⟨gb675, 0, none⟩ = some (.int .i64 a0_0) := (blk_cell BK675.out 0).trans rfl; have hcz20_1 : w19.cell? ⟨gb675, 1, none⟩ = some (.int .i64 a0_1) := (blk_cell BK675.out 1).trans rfl; have hfz20_0 := blk_frozen BK675.out 0; have hfz20_1 := blk_frozen BK675.out 1) | ((with_reducible refine gate_callee (f := 37) rfl ?_); refine goesL_ (some 22) rfl rfl Tryd.func37 (by kernel_rfl) rfl #[.agg #[.int .i64 a0_0, .int .i64 a0_1]] rfl (by (try simp only [List.map_toArray, List.map_cons, List.map_nil]); first | done | rfl | (simp only [List.length_drop, List.length_take]; rfl)) ?_; (with_reducible refine (num_Path.calls k a0_0 a0_1 t681 t684 _ A6.out).mono ?_); rintro e w21 ⟨v682, rfl, ho0, hb⟩; refine ⟨_, rfl, ?_⟩; have n0_ := Aside0.mk (Kd.R_elder' (by (with_reducible repeat (first | apply Kd.R_alloc | apply Kd.R_drewN | apply Kd.R_drew)); exact HO680.out) (Kd.R_base ho0) hb); have n1_ := Aside0.mk (Kd.R_lower (Kd.R_new' ho0 (Kd.R_lt (by (with_reducible repeat (first | apply Kd.R_alloc | apply Kd.R_drewN | apply Kd.R_drew)); exact HO680.out))) (below_size (by repeat (first | (with_reducible first | exact HB.out | apply below_alloc | apply pw_below_drewN | apply below_drew1 | refine below_set ?_ GE675.out) | exact HB.out)))); have n2_ := Aside0.mk (blk_below (g := gb675) (o := .cells #[.int .i64 a0_0, .int .i64 a0_1] 23 (0, 0)) (by (with_reducible repeat (first | refine blk_drewN ?_ _ | refine blk_drew ?_ | refine blk_alloc ?_ _)); exact BK675.out) hb); have n3_ := Aside0.mk (below_step (by repeat (first | (with_reducible first | exact HB.out | apply below_alloc | apply pw_below_drewN | apply below_drew1 | refine below_set ?_ GE675.out) | exact HB.out)) hb); clear HO680; clear BK675; clear HB; have HO680 := n0_; have HO683 := n1_; have BK675 := n2_; have HB := n3_; clear n0_ n1_ n2_ n3_; (try clear hb); (try clear hb2); (try clear hk); (try clear hi); (try clear ho0); have hcz22_0 : w21.cell? ⟨gb675, 0, none⟩ = some (.int .i64 a0_0) := (blk_cell BK675.out 0).trans rfl; have hcz22_1 : w21.cell? ⟨gb675, 1, none⟩ = some (.int .i64 a0_1) := (blk_cell BK675.out 1).trans rfl; have hfz22_0 := blk_frozen BK675.out 0; have hfz22_1 := blk_frozen BK675.out 1) | ((with_reducible refine gate_callee (f := 38) rfl ?_); refine goesL_ (some 27) rfl rfl Tryd.func38 (by kernel_rfl) rfl #[.agg #[.int .i64 a0_0, .int .i64 a0_1]] rfl (by (try simp only [List.map_toArray, List.map_cons, List.map_nil]); first | done | rfl | (simp only [List.length_drop, List.length_take]; rfl)) ?_; (with_reducible refine (merinoref01_Path.calls k a0_0 a0_1 t681 t684 _ A7.out).mono ?_); rintro e w23 ⟨v686, rfl, ho0, hb⟩; refine ⟨_, rfl, ?_⟩; have n0_ := Aside0.mk (Kd.R_elder' (by (with_reducible repeat (first | apply Kd.R_alloc | apply Kd.R_drewN | apply Kd.R_drew)); exact HO680.out) (Kd.R_base ho0) hb); have n1_ := Aside0.mk (Kd.R_elder' (by (with_reducible repeat (first | apply Kd.R_alloc | apply Kd.R_drewN | apply Kd.R_drew)); exact HO683.out) (Kd.R_base ho0) hb); have n2_ := Aside0.mk (Kd.R_lower (Kd.R_new' (Kd.R_new' ho0 (Kd.R_lt (by (with_reducible repeat (first | apply Kd.R_alloc | apply Kd.R_drewN | apply Kd.R_drew)); exact HO680.out))) (Kd.R_lt (by (with_reducible repeat (first | apply Kd.R_alloc | apply Kd.R_drewN | apply Kd.R_drew)); exact HO683.out))) (below_size (by repeat (first | (with_reducible first | exact HB.out | apply below_alloc | apply pw_below_drewN | apply below_drew1 | refine below_set ?_ GE675.out) | exact HB.out)))); have n3_ := Aside0.mk (blk_below (g := gb675) (o := .cells #[.int .i64 a0_0, .int .i64 a0_1] 23 (0, 0)) (by (with_reducible repeat (first | refine blk_drewN ?_ _ | refine blk_drew ?_ | refine blk_alloc ?_ _)); exact BK675.out) hb); have n4_ := Aside0.mk (below_step (by repeat (first | (with_reducible first | exact HB.out | apply below_alloc | apply pw_below_drewN | apply below_drew1 | refine below_set ?_ GE675.out) | exact HB.out)) hb); clear HO680; clear HO683; clear BK675; clear HB; have HO680 := n0_; have HO683 := n1_; have HO687 := n2_; have BK675 := n3_; have HB := n4_; clear n0_ n1_ n2_ n3_ n4_; (try clear hb); (try clear hb2); (try clear hk); (try clear hi); (try clear ho0)) | ((with_reducible refine gate_callee (f := 39) rfl ?_); refine goesL_ (some 32) rfl rfl Tryd.func39 (by kernel_rfl) rfl #[.slice Ao24 l1.length co24] rfl (by (try simp only [List.map_toArray, List.map_cons, List.map_nil]); first | done | rfl | (simp only [List.length_drop, List.length_take]; rfl)) ?_; (with_reducible refine (num_FromPath.calls k _ _ l1 t689 t690 t691 _ ?side1 ?side2 A8.out).mono ?_); (case side1 => repeat (first | exact full_take (Kd.R_reads' HO680.out).2.2 (Kd.R_reads' HO680.out).2.1 HF.out | (with_reducible refine Kd.C_alloc ?_ _) | (with_reducible refine Kd.C_drewN ?_ _) | (with_reducible refine Kd.C_drew ?_))); (case side2 => exact full_cap (Kd.R_reads' HO680.out).2.1 HF.out); rintro e w25 ⟨rfl, hb⟩; refine ⟨_, rfl, ?_⟩; have n0_ := Aside0.mk (Kd.R_below (by (with_reducible repeat (first | apply Kd.R_alloc | apply Kd.R_drewN | apply Kd.R_drew)); exact HO680.out) hb); have n1_ := Aside0.mk (Kd.R_below (by (with_reducible repeat (first | apply Kd.R_alloc | apply Kd.R_drewN | apply Kd.R_drew)); exact HO683.out) hb); have n2_ := Aside0.mk (Kd.R_below (by (with_reducible repeat (first | apply Kd.R_alloc | apply Kd.R_drewN | apply Kd.R_drew)); exact HO687.out) hb); have n3_ := Aside0.mk (blk_below (g := gb675) (o := .cells #[.int .i64 a0_0, .int .i64 a0_1] 23 (0, 0)) (by (with_reducible repeat (first | refine blk_drewN ?_ _ | refine blk_drew ?_ | refine blk_alloc ?_ _)); exact BK675.out) hb); have n4_ := Aside0.mk (below_step (by repeat (first | (with_reducible first | exact HB.out | apply below_alloc | apply pw_below_drewN | apply below_drew1 | refine below_set ?_ GE675.out) | exact HB.out)) hb); clear HO680; clear HO683; clear HO687; clear BK675; clear HB; have HO680 := n0_; have HO683 := n1_; have HO687 := n2_; have BK675 := n3_; have HB := n4_; clear n0_ n1_ n2_ n3_ n4_; (try clear hb); (try clear hb2); (try clear hk); (try clear hi)) | ((with_reducible refine gate_dst (N := 10) rfl ?_); refine box_event ?hg (N := 10) ?hd (cs := #[.int .i64 0, .int .i64 0]) (t := 23) ?hr ?_; (case hd => rfl); (case hg => rfl); (case hr => first | (go_simp; done) | (go_simp; rfl)); intro gb692 hg w26 hbox hb; have n0_ := Aside0.mk (Kd.R_below (by (with_reducible repeat (first | apply Kd.R_alloc | apply Kd.R_drewN | apply Kd.R_drew)); exact HO680.out) hb); have n1_ := Aside0.mk (Kd.R_below (by (with_reducible repeat (first | apply Kd.R_alloc | apply Kd.R_drewN | apply Kd.R_drew)); exact HO683.out) hb); have n2_ := Aside0.mk (Kd.R_below (by (with_reducible repeat (first | apply Kd.R_alloc | apply Kd.R_drewN | apply Kd.R_drew)); exact HO687.out) hb); have n3_ := Aside0.mk (blk_below (g := gb675) (o := .cells #[.int .i64 a0_0, .int .i64 a0_1] 23 (0, 0)) (by (with_reducible repeat (first | refine blk_drewN ?_ _ | refine blk_drew ?_ | refine blk_alloc ?_ _)); exact BK675.out) hb); have n4_ := Aside0.mk (below_step (by repeat (first | (with_reducible first | exact HB.out | apply below_alloc | apply pw_below_drewN | apply below_drew1 | refine below_set ?_ GE675.out) | exact HB.out)) hb); have n5_ := Aside0.mk (hbox); have n6_ := Aside0.mk ((by rw [hg]; exact (below_size (by repeat (first | (with_reducible first | exact HB.out | apply below_alloc | apply pw_below_drewN | apply below_drew1 | refine below_set ?_ GE675.out) | exact HB.out))) : w.heap.size ≤ gb692)); have n7_ := Aside0.mk ((by rw [hg]; exact (below_size (by repeat (first | (with_reducible first | exact HB.out | apply below_alloc | apply pw_below_drewN | apply below_drew1 | refine below_set ?_ GE675.out) | exact HB.out))) : w.heap.size ≤ gb692)); have n8_ := Aside0.mk ((by rw [hg]; exact Nat.ne_of_lt (blk_lt (g := gb675) (o := .cells #[.int .i64 a0_0, .int .i64 a0_1] 23 (0, 0)) (by (with_reducible repeat (first | refine blk_drewN ?_ _ | refine blk_drew ?_ | refine blk_alloc ?_ _)); exact BK675.out)) : gb675 ≠ gb692)); have n9_ := Aside0.mk ((by rw [hg]; exact Nat.ne_of_gt (blk_lt (g := gb675) (o := .cells #[.int .i64 a0_0, .int .i64 a0_1] 23 (0, 0)) (by (with_reducible repeat (first | refine blk_drewN ?_ _ | refine blk_drew ?_ | refine blk_alloc ?_ _)); exact BK675.out)) : gb692 ≠ gb675)); clear HO680; clear HO683; clear HO687; clear BK675; clear HB; have HO680 := n0_; have HO683 := n1_; have HO687 := n2_; have BK675 := n3_; have HB := n4_; have BK692 := n5_; have GW692 := n6_; have GE692 := n7_; have NB675_692 := n8_; have NB692_675 := n9_; clear n0_ n1_ n2_ n3_ n4_ n5_ n6_ n7_ n8_ n9_; clear hb hbox hg; have hnb27 := NB692_675.out; have hnc27 := NB675_692.out; have hcz28_0 : w26.cell? ⟨gb692, 0, none⟩ = some (.int .i64 0) := (blk_cell BK692.out 0).trans rfl; have hcz28_1 : w26.cell? ⟨gb692, 1, none⟩ = some (.int .i64 0) := (blk_cell BK692.out 1).trans rfl; have hfz28_0 := blk_frozen BK692.out 0; have hfz28_1 := blk_frozen BK692.out 1) | ((with_reducible refine gate_callee (f := 40) rfl ?_); refine goesL_ (some 37) rfl rfl Tryd.func40 (by kernel_rfl) rfl #[.slice A1 l1.length c1] rfl (by (try simp only [List.map_toArray, List.map_cons, List.map_nil]); first | done | rfl | (simp only [List.length_drop, List.length_take]; rfl)) ?_; (with_reducible refine (merinoref01_FromPath.calls k _ _ l1 t689 t690 t691 _ ?side1 ?side2 A9.out).mono ?_); (case side1 => exact Kd.C_below HR1.out (by repeat (first | (with_reducible first | exact HB.out | apply below_alloc | apply pw_below_drewN | apply below_drew1 | refine below_set ?_ GE675.out | refine below_set ?_ GE692.out) | exact HB.out))); (case side2 => exact HC1.out); rintro e w29 ⟨rfl, hb⟩; refine ⟨_, rfl, ?_⟩; have n0_ := Aside0.mk (Kd.R_below (by (with_reducible repeat (first | apply Kd.R_alloc | apply Kd.R_drewN | apply Kd.R_drew)); exact (Kd.R_mono (Kd.R_far (p := ⟨gb692, 1, none⟩) (Kd.R_far (p := ⟨gb692, 0, none⟩) (Kd.R_types HO680.out BK692.out (by decide)) (fun _ hk => hk.2) (.int .i64 t689)) (fun _ hk => hk.2) (.int .i64 t690)) (fun _ h_ => h_.1))) hb); have n1_ := Aside0.mk (Kd.R_below (by (with_reducible repeat (first | apply Kd.R_alloc | apply Kd.R_drewN | apply Kd.R_drew)); exact (Kd.R_mono (Kd.R_far (p := ⟨gb692, 1, none⟩) (Kd.R_far (p := ⟨gb692, 0, none⟩) (Kd.R_types HO683.out BK692.out (by decide)) (fun _ hk => hk.2) (.int .i64 t689)) (fun _ hk => hk.2) (.int .i64 t690)) (fun _ h_ => h_.1))) hb); have n2_ := Aside0.mk (Kd.R_below (by (with_reducible repeat (first | apply Kd.R_alloc | apply Kd.R_drewN | apply Kd.R_drew)); exact (Kd.R_mono (Kd.R_far (p := ⟨gb692, 1, none⟩) (Kd.R_far (p := ⟨gb692, 0, none⟩) (Kd.R_types HO687.out BK692.out (by decide)) (fun _ hk => hk.2) (.int .i64 t689)) (fun _ hk => hk.2) (.int .i64 t690)) (fun _ h_ => h_.1))) hb); have n3_ := Aside0.mk (blk_below (g := gb675) (o := .cells #[.int .i64 a0_0, .int .i64 a0_1] 23 (0, 0)) (by (with_reducible repeat (first | refine blk_drewN ?_ _ | refine blk_drew ?_ | refine blk_alloc ?_ _)); refine blk_far ?_ NB675_692.out _; (with_reducible repeat (first | refine blk_drewN ?_ _ | refine blk_drew ?_ | refine blk_alloc ?_ _)); refine blk_far ?_ NB675_692.out _; (with_reducible repeat (first | refine blk_drewN ?_ _ | refine blk_drew ?_ | refine blk_alloc ?_ _)); exact BK675.out) hb); have n4_ := Aside0.mk (blk_below (g := gb692) (o := .cells #[.int .i64 t689, .int .i64 t690] 23 (0, 0)) (by (with_reducible repeat (first | refine blk_drewN ?_ _ | refine blk_drew ?_ | refine blk_alloc ?_ _)); refine blk_put (cs := #[.int .i64 t689, .int .i64 0]) ?_ 1 _ rfl; (with_reducible repeat (first | refine blk_drewN ?_ _ | refine blk_drew ?_ | refine blk_alloc ?_ _)); refine blk_put (cs := #[.int .i64 0, .int .i64 0]) ?_ 0 _ rfl; (with_reducible repeat (first | refine blk_drewN ?_ _ | refine blk_drew ?_ | refine blk_alloc ?_ _)); exact BK692.out) hb); have n5_ := Aside0.mk (below_step (by repeat (first | (with_reducible first | exact HB.out | apply below_alloc | apply pw_below_drewN | apply below_drew1 | refine below_set ?_ GE675.out | refine below_set ?_ GE692.out) | exact HB.out)) hb); clear HO680; clear HO683; clear HO687; clear BK675; clear BK692; clear HB; have HO680 := n0_; have HO683 := n1_; have HO687 := n2_; have BK675 := n3_; have BK692 := n4_; have HB := n5_; clear n0_ n1_ n2_ n3_ n4_ n5_; (try clear hb); (try clear hb2); (try clear hk); (try clear hi)) | ((with_reducible refine gate_dst (N := 12) rfl ?_); refine box_event ?hg (N := 12) ?hd (cs := #[.int .i64 0, .int .i64 0]) (t := 23) ?hr ?_; (case hd => rfl); (case hg => rfl); (case hr => first | (go_simp; done) | (go_simp; rfl)); intro gb696 hg w30 hbox hb; have n0_ := Aside0.mk (Kd.R_below (by (with_reducible repeat (first | apply Kd.R_alloc | apply Kd.R_drewN | apply Kd.R_drew)); exact HO680.out) hb); have n1_ := Aside0.mk (Kd.R_below (by (with_reducible repeat (first | apply Kd.R_alloc | apply Kd.R_drewN | apply Kd.R_drew)); exact HO683.out) hb); have n2_ := Aside0.mk (Kd.R_below (by (with_reducible repeat (first | apply Kd.R_alloc | apply Kd.R_drewN | apply Kd.R_drew)); exact HO687.out) hb); have n3_ := Aside0.mk (blk_below (g := gb675) (o := .cells #[.int .i64 a0_0, .int .i64 a0_1] 23 (0, 0)) (by (with_reducible repeat (first | refine blk_drewN ?_ _ | refine blk_drew ?_ | refine blk_alloc ?_ _)); exact BK675.out) hb); have n4_ := Aside0.mk (blk_below (g := gb692) (o := .cells #[.int .i64 t689, .int .i64 t690] 23 (0, 0)) (by (with_reducible repeat (first | refine blk_drewN ?_ _ | refine blk_drew ?_ | refine blk_alloc ?_ _)); exact BK692.out) hb); have n5_ := Aside0.mk (below_step (by repeat (first | (with_reducible first | exact HB.out | apply below_alloc | apply pw_below_drewN | apply below_drew1 | refine below_set ?_ GE675.out | refine below_set ?_ GE692.out) | exact HB.out)) hb); have n6_ := Aside0.mk (hbox); have n7_ := Aside0.mk ((by rw [hg]; exact (below_size (by repeat (first | (with_reducible first | exact HB.out | apply below_alloc | apply pw_below_drewN | apply below_drew1 | refine below_set ?_ GE675.out | refine below_set ?_ GE692.out) | exact HB.out))) : w.heap.size ≤ gb696)); have n8_ := Aside0.mk ((by rw [hg]; exact (below_size (by repeat (first | (with_reducible first | exact HB.out | apply below_alloc | apply pw_below_drewN | apply below_drew1 | refine below_set ?_ GE675.out | refine below_set ?_ GE692.out) | exact HB.out))) : w.heap.size ≤ gb696)); have n9_ := Aside0.mk ((by rw [hg]; exact Nat.ne_of_lt (blk_lt (g := gb675) (o := .cells #[.int .i64 a0_0, .int .i64 a0_1] 23 (0, 0)) (by (with_reducible repeat (first | refine blk_drewN ?_ _ | refine blk_drew ?_ | refine blk_alloc ?_ _)); exact BK675.out)) : gb675 ≠ gb696)); have n10_ := Aside0.mk ((by rw [hg]; exact Nat.ne_of_gt (blk_lt (g := gb675) (o := .cells #[.int .i64 a0_0, .int .i64 a0_1] 23 (0, 0)) (by (with_reducible repeat (first | refine blk_drewN ?_ _ | refine blk_drew ?_ | refine blk_alloc ?_ _)); exact BK675.out)) : gb696 ≠ gb675)); have n11_ := Aside0.mk ((by rw [hg]; exact Nat.ne_of_lt (blk_lt (g := gb692) (o := .cells #[.int .i64 t689, .int .i64 t690] 23 (0, 0)) (by (with_reducible repeat (first | refine blk_drewN ?_ _ | refine blk_drew ?_ | refine blk_alloc ?_ _)); exact BK692.out)) : gb692 ≠ gb696)); have n12_ := Aside0.mk ((by rw [hg]; exact Nat.ne_of_gt (blk_lt (g := gb692) (o := .cells #[.int .i64 t689, .int .i64 t690] 23 (0, 0)) (by (with_reducible repeat (first | refine blk_drewN ?_ _ | refine blk_drew ?_ | refine blk_alloc ?_ _)); exact BK692.out)) : gb696 ≠ gb692)); clear HO680; clear HO683; clear HO687; clear BK675; clear BK692; clear HB; have HO680 := n0_; have HO683 := n1_; have HO687 := n2_; have BK675 := n3_; have BK692 := n4_; have HB := n5_; have BK696 := n6_; have GW696 := n7_; have GE696 := n8_; have NB675_696 := n9_; have NB696_675 := n10_; have NB692_696 := n11_; have NB696_692 := n12_; clear n0_ n1_ n2_ n3_ n4_ n5_ n6_ n7_ n8_ n9_ n10_ n11_ n12_; clear hb hbox hg; have hnb31 := NB696_675.out; have hnc31 := NB675_696.out; have hnb32 := NB696_692.out; have hnc32 := NB692_696.out; have hcz33_0 : w30.cell? ⟨gb696, 0, none⟩ = some (.int .i64 0) := (blk_cell BK696.out 0).trans rfl; have hcz33_1 : w30.cell? ⟨gb696, 1, none⟩ = some (.int .i64 0) := (blk_cell BK696.out 1).trans rfl; have hfz33_0 := blk_frozen BK696.out 0; have hfz33_1 := blk_frozen BK696.out 1; obtain ⟨Ao34, co34, eo34⟩ := Kd.R_slice HO683.out; subst eo34; obtain ⟨Ao35, co35, eo35⟩ := Kd.R_slice HO687.out; subst eo35) | ((with_reducible refine gate_callee (f := 41) rfl ?_); refine goesL_ (some 42) rfl rfl Tryd.func41 (by kernel_rfl) rfl #[.slice Ao34 t681.length co34, .slice Ao35 t681.length co35] rfl (by (try simp only [List.map_toArray, List.map_cons, List.map_nil]); first | done | rfl | (simp only [List.length_drop, List.length_take]; rfl)) ?_; (with_reducible refine (merinolaw01_same.calls k _ _ t681 _ _ t681 true _ ?side1 ?side2 ?side3 ?side4 A10.out).mono ?_); (case side1 => refine (Kd.R_reads' (e := 3) (base := w.heap.size) (ok := fun k_ => ((True ∧ some k_ ≠ (.slice Ao24 t678.length co24 : Value).ownBlock) ∧ some k_ ≠ (.slice Ao35 t681.length co35 : Value).ownBlock)) (n := t681.length) (c := co34) ?_).2.2; exact (by (with_reducible repeat (first | apply Kd.R_alloc | apply Kd.R_drewN | apply Kd.R_drew)); exact (Kd.R_mono (Kd.R_far (p := ⟨gb696, 1, none⟩) (Kd.R_far (p := ⟨gb696, 0, none⟩) (Kd.R_types HO683.out BK696.out (by decide)) (fun _ hk => hk.2) (.int .i64 t689)) (fun _ hk => hk.2) (.int .i64 t690)) (fun _ h_ => h_.1)))); (case side2 => exact (Kd.R_reads' HO683.out).2.1); (case side3 => refine (Kd.R_reads' (e := 3) (base := w.heap.size) (ok := fun k_ => ((True ∧ some k_ ≠ (.slice Ao24 t678.length co24 : Value).ownBlock) ∧ some k_ ≠ (.slice Ao34 t681.length co34 : Value).ownBlock)) (n := t681.length) (c := co35) ?_).2.2; exact (by (with_reducible repeat (first | apply Kd.R_alloc | apply Kd.R_drewN | apply Kd.R_drew)); exact (Kd.R_mono (Kd.R_far (p := ⟨gb696, 1, none⟩) (Kd.R_far (p := ⟨gb696, 0, none⟩) (Kd.R_types HO687.out BK696.out (by decide)) (fun _ hk => hk.2) (.int .i64 t689)) (fun _ hk => hk.2) (.int .i64 t690)) (fun _ h_ => h_.1)))); (case side4 => exact (Kd.R_reads' HO687.out).2.1); rintro e w' ⟨rfl, ⟨nd, rfl⟩⟩; refine ⟨_, rfl, ?_⟩; have hcz36_0 : w30.cell? ⟨gb692, 0, none⟩ = some (.int .i64 t689) := (blk_cell BK692.out 0).trans rfl; have hcz36_1 : w30.cell? ⟨gb692, 1, none⟩ = some (.int .i64 t690) := (blk_cell BK692.out 1).trans rfl; have hfz36_0 := blk_frozen BK692.out 0; have hfz36_1 := blk_frozen BK692.out 1) | (go_at_call 42; (with_reducible refine (kept_whole k _ _ t678 _ _ l1 _ ?side1 ?side2 ?side3 ?side4 A15.out).mono ?_); (case side1 => refine (Kd.R_reads' (e := 3) (base := w.heap.size) (ok := fun k_ => ((True ∧ some k_ ≠ (.slice Ao34 t681.length co34 : Value).ownBlock) ∧ some k_ ≠ (.slice Ao35 t681.length co35 : Value).ownBlock)) (n := t678.length) (c := co24) ?_).2.2; exact (by (with_reducible repeat (first | apply Kd.R_alloc | apply Kd.R_drewN | apply Kd.R_drew)); exact (Kd.R_mono (Kd.R_far (p := ⟨gb696, 1, none⟩) (Kd.R_far (p := ⟨gb696, 0, none⟩) (Kd.R_types HO680.out BK696.out (by decide)) (fun _ hk => hk.2) (.int .i64 t689)) (fun _ hk => hk.2) (.int .i64 t690)) (fun _ h_ => h_.1)))); (case side2 => exact (Kd.R_reads' HO680.out).2.1); (case side3 => exact Kd.C_below HR1.out (by repeat (first | (with_reducible first | exact HB.out | apply below_alloc | apply pw_below_drewN | apply below_drew1 | refine below_set ?_ GE675.out | refine below_set ?_ GE692.out | refine below_set ?_ GE696.out) | exact HB.out))); (case side4 => exact HC1.out); rintro e w' ⟨rfl, ⟨nd, rfl⟩⟩) | (go_at_call 21; (with_reducible refine (merinolaw01_alive.calls  true _ A17.out).mono ?_); rintro e w37 ⟨rfl, hb⟩; have n0_ := Aside0.mk (Kd.R_below (by (with_reducible repeat (first | apply Kd.R_alloc | apply Kd.R_drewN | apply Kd.R_drew)); exact (Kd.R_mono (Kd.R_far (p := ⟨gb696, 1, none⟩) (Kd.R_far (p := ⟨gb696, 0, none⟩) (Kd.R_types HO680.out BK696.out (by decide)) (fun _ hk => hk.2) (.int .i64 t689)) (fun _ hk => hk.2) (.int .i64 t690)) (fun _ h_ => h_.1))) hb); have n1_ := Aside0.mk (Kd.R_below (by (with_reducible repeat (first | apply Kd.R_alloc | apply Kd.R_drewN | apply Kd.R_drew)); exact (Kd.R_mono (Kd.R_far (p := ⟨gb696, 1, none⟩) (Kd.R_far (p := ⟨gb696, 0, none⟩) (Kd.R_types HO683.out BK696.out (by decide)) (fun _ hk => hk.2) (.int .i64 t689)) (fun _ hk => hk.2) (.int .i64 t690)) (fun _ h_ => h_.1))) hb); have n2_ := Aside0.mk (Kd.R_below (by (with_reducible repeat (first | apply Kd.R_alloc | apply Kd.R_drewN | apply Kd.R_drew)); exact (Kd.R_mono (Kd.R_far (p := ⟨gb696, 1, none⟩) (Kd.R_far (p := ⟨gb696, 0, none⟩) (Kd.R_types HO687.out BK696.out (by decide)) (fun _ hk => hk.2) (.int .i64 t689)) (fun _ hk => hk.2) (.int .i64 t690)) (fun _ h_ => h_.1))) hb); have n3_ := Aside0.mk (blk_below (g := gb675) (o := .cells #[.int .i64 a0_0, .int .i64 a0_1] 23 (0, 0)) (by (with_reducible repeat (first | refine blk_drewN ?_ _ | refine blk_drew ?_ | refine blk_alloc ?_ _)); refine blk_far ?_ NB675_696.out _; (with_reducible repeat (first | refine blk_drewN ?_ _ | refine blk_drew ?_ | refine blk_alloc ?_ _)); refine blk_far ?_ NB675_696.out _; (with_reducible repeat (first | refine blk_drewN ?_ _ | refine blk_drew ?_ | refine blk_alloc ?_ _)); exact BK675.out) hb); have n4_ := Aside0.mk (blk_below (g := gb692) (o := .cells #[.int .i64 t689, .int .i64 t690] 23 (0, 0)) (by (with_reducible repeat (first | refine blk_drewN ?_ _ | refine blk_drew ?_ | refine blk_alloc ?_ _)); refine blk_far ?_ NB692_696.out _; (with_reducible repeat (first | refine blk_drewN ?_ _ | refine blk_drew ?_ | refine blk_alloc ?_ _)); refine blk_far ?_ NB692_696.out _; (with_reducible repeat (first | refine blk_drewN ?_ _ | refine blk_drew ?_ | refine blk_alloc ?_ _)); exact BK692.out) hb); have n5_ := Aside0.mk (blk_below (g := gb696) (o := .cells #[.int .i64 t689, .int .i64 t690] 23 (0, 0)) (by (with_reducible repeat (first | refine blk_drewN ?_ _ | refine blk_drew ?_ | refine blk_alloc ?_ _)); refine blk_put (cs := #[.int .i64 t689, .int .i64 0]) ?_ 1 _ rfl; (with_reducible repeat (first | refine blk_drewN ?_ _ | refine blk_drew ?_ | refine blk_alloc ?_ _)); refine blk_put (cs := #[.int .i64 0, .int .i64 0]) ?_ 0 _ rfl; (with_reducible repeat (first | refine blk_drewN ?_ _ | refine blk_drew ?_ | refine blk_alloc ?_ _)); exact BK696.out) hb); have n6_ := Aside0.mk (below_step (by repeat (first | (with_reducible first | exact HB.out | apply below_alloc | apply pw_below_drewN | apply below_drew1 | refine below_set ?_ GE675.out | refine below_set ?_ GE692.out | refine below_set ?_ GE696.out) | exact HB.out)) hb); clear HO680; clear HO683; clear HO687; clear BK675; clear BK692; clear BK696; clear HB; have HO680 := n0_; have HO683 := n1_; have HO687 := n2_; have BK675 := n3_; have BK692 := n4_; have BK696 := n5_; have HB := n6_; clear n0_ n1_ n2_ n3_ n4_ n5_ n6_; (try clear hb); (try clear hb2); (try clear hk); (try clear hi)))
  go_ret
  exact ⟨by first | rfl | (simp [errW_none, errW_some] <;> rfl) | (simp [*, errW_none, errW_some] <;> rfl), by repeat (first | (with_reducible first | exact HB.out | apply below_alloc | apply pw_below_drewN | apply below_drew1 | refine below_set ?_ GE675.out | refine below_set ?_ GE692.out | refine below_set ?_ GE696.out) | exact HB.out)⟩
end Go.Proofs.YtdjnneflpkllmaaDoor.Q

namespace Go.Proofs.YtdjnneflpkllmaaDoor.Q
open Go.RowKit Go.Proofs.YtdjnneflpkllmaaDoorW.PrintWords Go.Proofs.YtdjnneflpkllmaaDoorW.PrintLast Go.Proofs.YtdjnneflpkllmaaDoorW.PrintMore
set_option linter.unusedVariables false
set_option linter.unusedSimpArgs false
set_option maxHeartbeats 8000000 in
set_option maxRecDepth 100000 in
theorem merinolaw01_NumPaths.long (a0_0 a0_1 : Int) (A1 : Option Addr) (c1 : Nat) (l1 : List Int) (w : World) (hr1 : Kd.C (Kd.int .i64) w A1 l1.length l1) (hc1 : l1.length ≤ c1) (A30 : merinolaw01_few.f l1 = some false) :
    Calls Tryd.prog 8 #[.agg #[.int .i64 a0_0, .int .i64 a0_1], .slice A1 l1.length c1] w fun e w' => e = .returned (.bool true) ∧ Below w.heap.size w w' := by
  have hu23 := Tryd.underlying23
  have HR1 := Aside0.mk hr1
  have HC1 := Aside0.mk hc1
  have HB := Aside0.mk (Below.refl w.heap.size w)
  have A3 := Aside0.mk A30
  have A1310 : merinolaw01_alive.f = some true := rfl
  have A131 := Aside0.mk A1310
  clear hr1 hc1 A30 A1310
  go_enter Tryd.func8, Tryd.ntmps8
  go_wp2_with (first | ((with_reducible refine gate_dst (N := 2) rfl ?_); refine box_event ?hg (N := 2) ?hd (cs := #[.int .i64 a0_0, .int .i64 a0_1]) (t := 23) ?hr ?_; (case hd => rfl); (case hg => rfl); (case hr => first | (go_simp; done) | (go_simp; rfl)); intro gb675 hg w132 hbox hb; have n0_ := Aside0.mk (below_step (by repeat (first | (with_reducible first | exact HB.out | apply below_alloc | apply pw_below_drewN | apply below_drew1) | exact HB.out)) hb); have n1_ := Aside0.mk (hbox); have n2_ := Aside0.mk ((by rw [hg]; exact (below_size (by repeat (first | (with_reducible first | exact HB.out | apply below_alloc | apply pw_below_drewN | apply below_drew1) | exact HB.out))) : w.heap.size ≤ gb675)); have n3_ := Aside0.mk ((by rw [hg]; exact (below_size (by repeat (first | (with_reducible first | exact HB.out | apply below_alloc | apply pw_below_drewN | apply below_drew1) | exact HB.out))) : w.heap.size ≤ gb675)); clear HB; have HB := n0_; have BK675 := n1_; have GW675 := n2_; have GE675 := n3_; clear n0_ n1_ n2_ n3_; clear hb hbox hg) | ((with_reducible refine gate_callee (f := 35) rfl ?_); refine goesL_ (some 15) rfl rfl Tryd.func35 (by kernel_rfl) rfl #[.slice A1 l1.length c1] rfl (by (try simp only [List.map_toArray, List.map_cons, List.map_nil]); first | done | rfl | (simp only [List.length_drop, List.length_take]; rfl)) ?_; (with_reducible refine (merinolaw01_few.calls _ _ l1 false _ ?side1 ?side2 A3.out).mono ?_); (case side1 => repeat (first | exact (Kd.C_below HR1.out HB.out) | (with_reducible refine Kd.C_alloc ?_ _) | (with_reducible refine Kd.C_drewN ?_ _) | (with_reducible refine Kd.C_drew ?_))); (case side2 => exact HC1.out); rintro e w' ⟨rfl, ⟨nd, rfl⟩⟩; refine ⟨_, rfl, ?_⟩) | ((with_reducible refine gate_callee (f := 21) rfl ?_); refine goesL_ (some 17) rfl rfl Tryd.func21 (by kernel_rfl) rfl #[] rfl (by (try simp only [List.map_toArray, List.map_cons, List.map_nil]); first | done | rfl | (simp only [List.length_drop, List.length_take]; rfl)) ?_; (with_reducible refine (merinolaw01_alive.calls  true _ A131.out).mono ?_); rintro e w133 ⟨rfl, hb⟩; refine ⟨_, rfl, ?_⟩; have n0_ := Aside0.mk (blk_below (g := gb675) (o := .cells #[.int .i64 a0_0, .int .i64 a0_1] 23 (0, 0)) (by (with_reducible repeat (first | refine blk_drewN ?_ _ | refine blk_drew ?_ | refine blk_alloc ?_ _)); exact BK675.out) hb); have n1_ := Aside0.mk (below_step (by repeat (first | (with_reducible first | exact HB.out | apply below_alloc | apply pw_below_drewN | apply below_drew1 | refine below_set ?_ GE675.out) | exact HB.out)) hb); clear BK675; clear HB; have BK675 := n0_; have HB := n1_; clear n0_ n1_; (try clear hb); (try clear hb2); (try clear hk); (try clear hi)))
  go_ret
  exact ⟨by first | rfl | (simp [errW_none, errW_some] <;> rfl) | (simp [*, errW_none, errW_some] <;> rfl), by repeat (first | (with_reducible first | exact HB.out | apply below_alloc | apply pw_below_drewN | apply below_drew1 | refine below_set ?_ GE675.out) | exact HB.out)⟩
end Go.Proofs.YtdjnneflpkllmaaDoor.Q
namespace Go.Proofs.Num
open Go.RowKit Go.Proofs.YtdjnneflpkllmaaDoorW.PrintWords Go.Proofs.YtdjnneflpkllmaaDoorW.PrintMore Go.Proofs.YtdjnneflpkllmaaDoor.Q
theorem walk_NumPaths (n d : Int) (A1 : Option Addr) (c1 : Nat) (l : List Int) (w : World) (hr1 : Kd.C (Kd.int .i64) w A1 l.length l) (hc1 : l.length ≤ c1) (h64 : ∀ i, -9223372036854775808 ≤ at_ l i ∧ at_ l i ≤ 9223372036854775807) :
    Calls Tryd.prog 8 #[.agg #[.int .i64 n, .int .i64 d], .slice A1 l.length c1] w fun e w' => e = .returned (.bool true) ∧ Below w.heap.size w w' := by
  by_cases h : l.length ≤ 300
  · obtain ⟨r, e, P1, P2, lr⟩ := path_ok n d
    obtain ⟨v, F1, F2⟩ := from_same h64 (by omega)
    obtain ⟨v1, v2, v3⟩ := v
    obtain ⟨k1, g1⟩ := P1
    obtain ⟨k2, g2⟩ := P2
    obtain ⟨k3, g3⟩ := F1
    obtain ⟨k4, g4⟩ := F2
    obtain ⟨k5, g5⟩ := full_ok (l := l) (by omega)
    obtain ⟨k6, g6⟩ := same_ok (l := r) (by omega)
    obtain ⟨k7, g7⟩ := same_ok (l := l) (by omega)
    obtain ⟨K, hK⟩ : ∃ K, K = k1 + k2 + k3 + k4 + k5 + k6 + k7 := ⟨_, rfl⟩
    exact merinolaw01_NumPaths.both K n d A1 c1 l _ r e v1 v2 v3 w hr1 hc1 (by omega) (by unfold merinolaw01_few.f; rw [decide_eq_true (by omega)]) (g5 K (by omega)) rfl (g1 K (by omega)) (g2 K (by omega)) (g3 K (by omega)) (g4 K (by omega)) (g6 K (by omega)) (g7 K (by omega))
  · exact merinolaw01_NumPaths.long n d A1 c1 l w hr1 hc1 (by unfold merinolaw01_few.f; rw [decide_eq_false (by omega)])
end Go.Proofs.Num

namespace Go.Proofs.YtdjnneflpkllmaaDoor.Num.NumPaths
open Go.ChangeShapes Go.WideShapes Go.ChangeAt Go.RowKit Go.Proofs.YtdjnneflpkllmaaDoor.Q Go.Proofs.YtdjnneflpkllmaaDoorW.PrintWords Go.Proofs.YtdjnneflpkllmaaDoorW.PrintLast Go.Proofs.YtdjnneflpkllmaaDoorW.PrintMore
set_option maxRecDepth 100000 in
theorem lifted (os : Os) (started : os.Started) (H : Type) (enc : TypeId × Value → H) :
    ReturnsInHanded {} Tryd.checked os 8 .any (fun w args => (Rows.numPathsSpec.pre enc Tryd.prog Tryd.f8 [] false w args ∧ laidMetH Tryd.prog laid3 w) ∧ sizedMet enc Tryd.prog Tryd.f8 (OpenSpec.ofChange Rows.numPathsSpec) false w args)
      (Rows.numPathsSpec.post enc Tryd.prog Tryd.f8 false true false false) := by
  refine returnsInHanded_of_change_and (C := Tryd.checked) (X := fun w _ => laidMetH Tryd.prog laid3 w) (fun _ _ _ hh h => h.of_heap hh) own started (by kernel_rfl) Tryd.func8
    (ChangeSpec.witness_shaped (enc := enc) (C := Tryd.checked) (os := os) (X := fun w _ => laidMetH Tryd.prog laid3 w) false (World.doorLaid Tryd.prog 400 os) #[.agg #[.int .i64 0, .int .i64 0], .slice none 0 0] 8 rfl (door_shaped os _) (by kernel_rfl) (by kernel_rfl) (by kernel_rfl) (door_met os _)) ?_
  intro W base args ds gs before hval0 hW _ _ hL _
  have hval : ∀ (j : Nat) t v, Tryd.f8.params[j]? = some t → args[j]? = some v → Value.okWide Tryd.prog W .any base t v := hval0
  have hW' := hW
  obtain ⟨p, q, hA0, hV, rfl, hfz, hnd⟩ := hW
  have hA : DataW.TrodAll enc Tryd.prog W 0 (fun _ => true) true Tryd.f8.params.toList args.toList ds p := hA0
  rw [Tryd.params8] at hA hval
  obtain ⟨v0, vs0, d0, ds0, p0, q0, hargs, rfl, rfl, h0, r0⟩ := trodAll_cons hA
  obtain ⟨v1, vs1, d1, ds1, p1, q1, rfl, rfl, rfl, h1, r1⟩ := trodAll_cons r0
  obtain ⟨rfl, rfl, rfl⟩ := trodAll_nil r1
  obtain rfl : args = #[v0, v1] := by cases args; simp_all
  obtain ⟨rfl, rfl⟩ := trodVars_none hV
  obtain ⟨a0, b0, rfl, rfl, rfl, wa0, wb0⟩ := open_frac (hval 0 23 v0 rfl rfl) h0
  have ba0 := i64_bounds wa0
  have bb0 := i64_bounds wb0
  obtain ⟨a1, len1, cap1, rfl⟩ := okWide_slice Tryd.underlying29 (hval 1 29 v1 rfl rfl)
  have k1 := h1
  have lt1 : ∀ x ∈ p1, x.block < W.heap.size := by obtain ⟨m, hm⟩ := k1; exact DataW.trod_lt m _ _ _ hm
  obtain ⟨l1, hl1, hr1, hc1, hb1⟩ : ∃ l1 : List Int, len1 = l1.length ∧ Kd.C (Kd.int .i64) W a1 l1.length l1 ∧ l1.length ≤ cap1 ∧ ∀ i, -9223372036854775808 ≤ Go.Proofs.Num.at_ l1 i ∧ Go.Proofs.Num.at_ l1 i ≤ 9223372036854775807 := by
    obtain ⟨fuel, hf⟩ := h1
    have w1 : ∃ z1 : List Int, (a1 = none ∧ len1 = 0 ∧ cap1 = 0 ∧ z1 = []) ∨ ∃ x, a1 = some x ∧ len1 ≤ cap1 ∧ cap1 ≤ maxLen ∧ z1.length = cap1 ∧ (∀ i, i < z1.length → W.cell? (x.add i) = some (.int .i64 (z1.getD i 0))) ∧ ∀ n ∈ z1, (Lit.int .i64 n).wf = true := by
      rcases open_ints Tryd.underlying29 Tryd.underlying3 (by kernel_rfl) hf with ⟨hcs, _⟩ | ⟨x, l, c, zs, hcs, _, hl, hm, hz, _, hcell, hwz⟩
      · injection hcs with hcs
        injection hcs with e1 e2 e3
        subst e1 e2 e3
        exact ⟨[], .inl ⟨rfl, rfl, rfl, rfl⟩⟩
      · injection hcs with hcs
        injection hcs with e1 e2 e3
        subst e1 e2 e3
        exact ⟨zs, .inr ⟨x, rfl, hl, hm, by simpa using hz, hcell, hwz⟩⟩
    obtain ⟨z1, w1⟩ := w1
    obtain ⟨l1, e, hr1, hm1, hw1, hc1⟩ := ReadsInt.ofRowC w1
    subst e
    refine ⟨l1, rfl, Kd.C_of_reads (d := (0 : Int)) (h1 := fun _ => rfl) hr1, hc1, fun i => ?_⟩
    rcases Nat.lt_or_ge i l1.length with hi | hi
    · have := i64_bounds (hw1 _ (List.getElem_mem hi))
      unfold Go.Proofs.Num.at_
      rw [List.getD_eq_getElem?_getD, List.getElem?_eq_getElem hi]
      exact this
    · unfold Go.Proofs.Num.at_
      rw [List.getD_eq_getElem?_getD, List.getElem?_eq_none hi]
      decide
  subst hl1
  clear hA0 hval0
  refine (Go.Proofs.Num.walk_NumPaths a0 b0 a1 cap1 l1 W hr1 hc1 hb1).mono fun e W' ⟨he, bel⟩ => ?_
  subst he
  exact ⟨_, rfl, _, _, _, [], _, [], hW', trodAll_mk1 (shut_bool Tryd.underlying4 _), (trodAll_cons_mk (shut_frac wa0 wb0) (trodAll_cons_mk (Below.trod laidOut (by kernel_rfl) (of_decide_eq_true (by kernel_rfl)) k1 bel lt1) trodAll_mk0)), rfl, bel.frame _, fun h => by cases h⟩
theorem over : Rows.numPathsRow.holds Tryd.pinned (OpenSpec.ofChange Rows.numPathsSpec) :=
  OpenClaim.holds_of_wide 8 Tryd.f8 rfl rfl rfl rfl rfl rfl rfl ⟨rfl, rfl, rfl, rfl, rfl⟩ rfl rfl rfl rfl rfl (by kernel_rfl) Tryd.func8 (by kernel_rfl)
    (of_decide_eq_true (by kernel_rfl)) (by unfold Func.isWrapper; first | (rw [if_pos (by decide +kernel)]; kernel_rfl) | (rw [if_neg (by decide +kernel)]; exact ⟨rfl, rfl⟩))
    (fun os started H enc _ => lifted os started H enc)
theorem card : Rows.NumPathsCardSaid :=
  Claim7.holds_tied_plain_at .later [] [.data, .data, .data] true (true, "c4d784d3af0786ebba60338a2eb94c2ca72ce7bdba7b39204aca8207213a9cc5") false
    over (fun _ h => by cases h) (by kernel_rfl) (fun _ h => by cases h) numPaths_row_tie rfl ⟨rfl, rfl⟩ (by kernel_rfl) rfl
    (fun f fn hf hfn => by
      obtain rfl : f = 8 := Option.some.inj ((show Tryd.prog.funcNamed "merino/merinolaw01.NumPaths" = some 8 by kernel_rfl).symm.trans hf) |>.symm
      obtain rfl : fn = Tryd.f8 := (Option.some.inj (Tryd.func8.symm.trans hfn)).symm
      exact ⟨by kernel_rfl, fun j t ht => by
        rw [Tryd.params8] at ht
        have hm : t ∈ [23, 29] := by simpa using Array.mem_of_getElem? ht
        have hall : ([23, 29].all fun u => !Tryd.prog.wantsStandIn u) = true := by kernel_rfl
        exact (show Tryd.prog.wantsStandIn t = false by simpa using List.all_eq_true.1 hall t hm)⟩)
    (by kernel_rfl)
#print axioms card
end Go.Proofs.YtdjnneflpkllmaaDoor.Num.NumPaths
namespace Go.Proofs.YtdjnneflpkllmaaDoor
/-- The card, under a short name, for the claim. -/
theorem numPaths_card : Rows.NumPathsCardSaid := Num.NumPaths.card
end Go.Proofs.YtdjnneflpkllmaaDoor
