-- printed
import Derived.Test.YtdjnneflpkllmaaGreatDoorRx0
namespace Go.Proofs.YtdjnneflpkllmaaGreatDoor.Q
open Go.RowKit Go.Proofs.YtdjnneflpkllmaaGreatDoorW.PrintWords Go.Proofs.YtdjnneflpkllmaaGreatDoorW.PrintLast Go.Proofs.YtdjnneflpkllmaaGreatDoorW.PrintMore
attribute [local go_sem] max2_int min2_int max_two min_two max_three min_three max_four min_four   -- for this text's walks alone
set_option linter.unusedVariables false
set_option linter.unusedSimpArgs false

/-! ### num_around: function 71 -/
/-- Cells that are stored as they are. -/
theorem self2_ {W : World} {g : Nat} {A B : Value} {t : TypeId} {f : Nat × Nat} (k : W.heap[g]? = some (.cells #[A, B] t f)) : (W.setCell ⟨g, 0, none⟩ A).setCell ⟨g, 1, none⟩ B = W := by
  have h : (((W.setCell ⟨g, 0, none⟩ A).setCell ⟨g, 1, none⟩ B)).heap = W.heap := by
    apply Array.ext_getElem?
    intro i
    simp only [World.setCell, Array.getElem?_modify]
    by_cases e : g = i
    · subst e
      simp [k]
    · simp [e]
  exact (show _ = { W with heap := ((W.setCell ⟨g, 0, none⟩ A).setCell ⟨g, 1, none⟩ B).heap } from rfl).trans (by rw [h])
mutual
def num_around.l0 : Nat → Int → Int → Int → Int → Int → Int → Int → Option (Int × Int × Int × Int)
  | 0, _, _, _, _, _, _, _ => none
  | k + 1, x0, x1, x2, x102000, x102001, x103000, x103001 => if x103001 = 0 then (none) else (if (wrap64 ((wrap64 (x103000 * x1)) - (wrap64 (x0 * x103001)))) > 0 then (if (wrap64 ((wrap64 (x103000 * x1)) - (wrap64 (x0 * x103001)))) = 0 then (none) else (num_around.j1 k x0 x1 x2 (mn (wrap64 (Int.tdiv (wrap64 (x2 - x102001)) x103001)) (wrap64 (Int.tdiv (wrap64 ((wrap64 (x0 * x102001)) - (wrap64 (x102000 * x1)))) (wrap64 ((wrap64 (x103000 * x1)) - (wrap64 (x0 * x103001))))))) x102000 x102001 x103000 x103001)) else (num_around.j1 k x0 x1 x2 (wrap64 (Int.tdiv (wrap64 (x2 - x102001)) x103001)) x102000 x102001 x103000 x103001))
def num_around.j1 : Nat → Int → Int → Int → Int → Int → Int → Int → Int → Option (Int × Int × Int × Int)
  | 0, _, _, _, _, _, _, _, _ => none
  | k + 1, x0, x1, x2, x8, x102000, x102001, x103000, x103001 => if (wrap64 (x102001 + (wrap64 (x8 * x103001)))) = 0 then (none) else (if (wrap64 ((wrap64 (x0 * (wrap64 (x102001 + (wrap64 (x8 * x103001)))))) - (wrap64 ((wrap64 (x102000 + (wrap64 (x8 * x103000)))) * x1)))) > 0 then (if (wrap64 ((wrap64 (x0 * (wrap64 (x102001 + (wrap64 (x8 * x103001)))))) - (wrap64 ((wrap64 (x102000 + (wrap64 (x8 * x103000)))) * x1)))) = 0 then (none) else (if x8 = 0 then (if (mn (wrap64 (Int.tdiv (wrap64 (x2 - x103001)) (wrap64 (x102001 + (wrap64 (x8 * x103001)))))) (wrap64 (Int.tdiv (wrap64 ((wrap64 ((wrap64 (x103000 * x1)) - (wrap64 (x0 * x103001)))) - 1)) (wrap64 ((wrap64 (x0 * (wrap64 (x102001 + (wrap64 (x8 * x103001)))))) - (wrap64 ((wrap64 (x102000 + (wrap64 (x8 * x103000)))) * x1))))))) = 0 then (some (wrap64 (x102000 + (wrap64 (x8 * x103000))), wrap64 (x102001 + (wrap64 (x8 * x103001))), wrap64 (x103000 + (wrap64 ((mn (wrap64 (Int.tdiv (wrap64 (x2 - x103001)) (wrap64 (x102001 + (wrap64 (x8 * x103001)))))) (wrap64 (Int.tdiv (wrap64 ((wrap64 ((wrap64 (x103000 * x1)) - (wrap64 (x0 * x103001)))) - 1)) (wrap64 ((wrap64 (x0 * (wrap64 (x102001 + (wrap64 (x8 * x103001)))))) - (wrap64 ((wrap64 (x102000 + (wrap64 (x8 * x103000)))) * x1))))))) * (wrap64 (x102000 + (wrap64 (x8 * x103000))))))), wrap64 (x103001 + (wrap64 ((mn (wrap64 (Int.tdiv (wrap64 (x2 - x103001)) (wrap64 (x102001 + (wrap64 (x8 * x103001)))))) (wrap64 (Int.tdiv (wrap64 ((wrap64 ((wrap64 (x103000 * x1)) - (wrap64 (x0 * x103001)))) - 1)) (wrap64 ((wrap64 (x0 * (wrap64 (x102001 + (wrap64 (x8 * x103001)))))) - (wrap64 ((wrap64 (x102000 + (wrap64 (x8 * x103000)))) * x1))))))) * (wrap64 (x102001 + (wrap64 (x8 * x103001))))))))) else (num_around.l0 k x0 x1 x2 (wrap64 (x102000 + (wrap64 (x8 * x103000)))) (wrap64 (x102001 + (wrap64 (x8 * x103001)))) (wrap64 (x103000 + (wrap64 ((mn (wrap64 (Int.tdiv (wrap64 (x2 - x103001)) (wrap64 (x102001 + (wrap64 (x8 * x103001)))))) (wrap64 (Int.tdiv (wrap64 ((wrap64 ((wrap64 (x103000 * x1)) - (wrap64 (x0 * x103001)))) - 1)) (wrap64 ((wrap64 (x0 * (wrap64 (x102001 + (wrap64 (x8 * x103001)))))) - (wrap64 ((wrap64 (x102000 + (wrap64 (x8 * x103000)))) * x1))))))) * (wrap64 (x102000 + (wrap64 (x8 * x103000)))))))) (wrap64 (x103001 + (wrap64 ((mn (wrap64 (Int.tdiv (wrap64 (x2 - x103001)) (wrap64 (x102001 + (wrap64 (x8 * x103001)))))) (wrap64 (Int.tdiv (wrap64 ((wrap64 ((wrap64 (x103000 * x1)) - (wrap64 (x0 * x103001)))) - 1)) (wrap64 ((wrap64 (x0 * (wrap64 (x102001 + (wrap64 (x8 * x103001)))))) - (wrap64 ((wrap64 (x102000 + (wrap64 (x8 * x103000)))) * x1))))))) * (wrap64 (x102001 + (wrap64 (x8 * x103001)))))))))) else (num_around.l0 k x0 x1 x2 (wrap64 (x102000 + (wrap64 (x8 * x103000)))) (wrap64 (x102001 + (wrap64 (x8 * x103001)))) (wrap64 (x103000 + (wrap64 ((mn (wrap64 (Int.tdiv (wrap64 (x2 - x103001)) (wrap64 (x102001 + (wrap64 (x8 * x103001)))))) (wrap64 (Int.tdiv (wrap64 ((wrap64 ((wrap64 (x103000 * x1)) - (wrap64 (x0 * x103001)))) - 1)) (wrap64 ((wrap64 (x0 * (wrap64 (x102001 + (wrap64 (x8 * x103001)))))) - (wrap64 ((wrap64 (x102000 + (wrap64 (x8 * x103000)))) * x1))))))) * (wrap64 (x102000 + (wrap64 (x8 * x103000)))))))) (wrap64 (x103001 + (wrap64 ((mn (wrap64 (Int.tdiv (wrap64 (x2 - x103001)) (wrap64 (x102001 + (wrap64 (x8 * x103001)))))) (wrap64 (Int.tdiv (wrap64 ((wrap64 ((wrap64 (x103000 * x1)) - (wrap64 (x0 * x103001)))) - 1)) (wrap64 ((wrap64 (x0 * (wrap64 (x102001 + (wrap64 (x8 * x103001)))))) - (wrap64 ((wrap64 (x102000 + (wrap64 (x8 * x103000)))) * x1))))))) * (wrap64 (x102001 + (wrap64 (x8 * x103001))))))))))) else (if x8 = 0 then (if (wrap64 (Int.tdiv (wrap64 (x2 - x103001)) (wrap64 (x102001 + (wrap64 (x8 * x103001)))))) = 0 then (some (wrap64 (x102000 + (wrap64 (x8 * x103000))), wrap64 (x102001 + (wrap64 (x8 * x103001))), wrap64 (x103000 + (wrap64 ((wrap64 (Int.tdiv (wrap64 (x2 - x103001)) (wrap64 (x102001 + (wrap64 (x8 * x103001)))))) * (wrap64 (x102000 + (wrap64 (x8 * x103000))))))), wrap64 (x103001 + (wrap64 ((wrap64 (Int.tdiv (wrap64 (x2 - x103001)) (wrap64 (x102001 + (wrap64 (x8 * x103001)))))) * (wrap64 (x102001 + (wrap64 (x8 * x103001))))))))) else (num_around.l0 k x0 x1 x2 (wrap64 (x102000 + (wrap64 (x8 * x103000)))) (wrap64 (x102001 + (wrap64 (x8 * x103001)))) (wrap64 (x103000 + (wrap64 ((wrap64 (Int.tdiv (wrap64 (x2 - x103001)) (wrap64 (x102001 + (wrap64 (x8 * x103001)))))) * (wrap64 (x102000 + (wrap64 (x8 * x103000)))))))) (wrap64 (x103001 + (wrap64 ((wrap64 (Int.tdiv (wrap64 (x2 - x103001)) (wrap64 (x102001 + (wrap64 (x8 * x103001)))))) * (wrap64 (x102001 + (wrap64 (x8 * x103001)))))))))) else (num_around.l0 k x0 x1 x2 (wrap64 (x102000 + (wrap64 (x8 * x103000)))) (wrap64 (x102001 + (wrap64 (x8 * x103001)))) (wrap64 (x103000 + (wrap64 ((wrap64 (Int.tdiv (wrap64 (x2 - x103001)) (wrap64 (x102001 + (wrap64 (x8 * x103001)))))) * (wrap64 (x102000 + (wrap64 (x8 * x103000)))))))) (wrap64 (x103001 + (wrap64 ((wrap64 (Int.tdiv (wrap64 (x2 - x103001)) (wrap64 (x102001 + (wrap64 (x8 * x103001)))))) * (wrap64 (x102001 + (wrap64 (x8 * x103001)))))))))))
end
def num_around.f (k : Nat) (a0 : Int) (a1 : Int) (a2 : Int) : Option (Int × Int × Int × Int) := num_around.l0 k a0 a1 a2 0 1 1 1
theorem num_around.mono_l : ∀ k, (∀ y0 y1 y2 y3 y4 y5 y6, LeO (num_around.l0 k y0 y1 y2 y3 y4 y5 y6) (num_around.l0 (k + 1) y0 y1 y2 y3 y4 y5 y6)) ∧ (∀ y0 y1 y2 y3 y4 y5 y6 y7, LeO (num_around.j1 k y0 y1 y2 y3 y4 y5 y6 y7) (num_around.j1 (k + 1) y0 y1 y2 y3 y4 y5 y6 y7))
  | 0 => ⟨fun _ _ _ _ _ _ _ r h => by simp [num_around.l0] at h, fun _ _ _ _ _ _ _ _ r h => by simp [num_around.j1] at h⟩
  | k + 1 => by
    obtain ⟨ih0, ih1⟩ := num_around.mono_l k
    refine ⟨?_, ?_⟩
    · intro y0 y1 y2 y3 y4 y5 y6
      unfold num_around.l0
      repeat' first
      | (with_reducible exact ih0 _ _ _ _ _ _ _)
      | (with_reducible exact ih1 _ _ _ _ _ _ _ _)
      | (with_reducible exact LeO.refl _)
      | (with_reducible exact LeO.none _)
      | (with_reducible refine LeO.ite ?_ ?_)
      | (with_reducible refine LeO.bind ?_ (fun _ => ?_))
      | exact ih0 _ _ _ _ _ _ _
      | exact ih1 _ _ _ _ _ _ _ _
      | exact LeO.none _
      | refine LeO.ite ?_ ?_
      | refine LeO.bind ?_ (fun _ => ?_)
    · intro y0 y1 y2 y3 y4 y5 y6 y7
      unfold num_around.j1
      repeat' first
      | (with_reducible exact ih0 _ _ _ _ _ _ _)
      | (with_reducible exact ih1 _ _ _ _ _ _ _ _)
      | (with_reducible exact LeO.refl _)
      | (with_reducible exact LeO.none _)
      | (with_reducible refine LeO.ite ?_ ?_)
      | (with_reducible refine LeO.bind ?_ (fun _ => ?_))
      | exact ih0 _ _ _ _ _ _ _
      | exact ih1 _ _ _ _ _ _ _ _
      | exact LeO.none _
      | refine LeO.ite ?_ ?_
      | refine LeO.bind ?_ (fun _ => ?_)
theorem num_around.mono : ∀ a0 a1 a2 k, LeO (num_around.f k a0 a1 a2) (num_around.f (k + 1) a0 a1 a2) := by
  intro a0 a1 a2 k
  obtain ⟨ih0, ih1⟩ := num_around.mono_l k
  unfold num_around.f
  repeat' first
      | (with_reducible exact ih0 _ _ _ _ _ _ _)
      | (with_reducible exact ih1 _ _ _ _ _ _ _ _)
      | (with_reducible exact LeO.refl _)
      | (with_reducible exact LeO.none _)
      | (with_reducible refine LeO.ite ?_ ?_)
      | (with_reducible refine LeO.bind ?_ (fun _ => ?_))
      | exact ih0 _ _ _ _ _ _ _
      | exact ih1 _ _ _ _ _ _ _ _
      | exact LeO.none _
      | refine LeO.ite ?_ ?_
      | refine LeO.bind ?_ (fun _ => ?_)
set_option maxHeartbeats 8000000 in
set_option maxRecDepth 100000 in
theorem num_around.calls (k : Nat) (a0 : Int) (a1 : Int) (a2 : Int) (r1 : Int) (r2 : Int) (r3 : Int) (r4 : Int) (w : World) (h : num_around.f k a0 a1 a2 = some (r1, r2, r3, r4)) :
    Calls Tryz.prog 41 #[.int .i64 a0, .int .i64 a1, .int .i64 a2] w fun e w' => e = .returned (.tuple #[.agg #[.int .i64 r1, .int .i64 r2], .agg #[.int .i64 r3, .int .i64 r4]]) ∧ Below w.heap.size w w' := by
  have hu23 := Tryz.underlying23
  have HB := Aside0.mk (Below.refl w.heap.size w)
  have H : (num_around.l0 k a0 a1 a2 0 1 1 1) = some (r1, r2, r3, r4) := h
  clear h
  have H' := Aside0.mk H
  clear H
  go_enter Tryz.func41, Tryz.ntmps41
  go_wp2_with (first | ((with_reducible refine gate_dst (N := 6) rfl ?_); refine box_event ?hg (N := 6) ?hd (cs := #[.int .i64 0, .int .i64 0]) (t := 23) ?hr ?_; (case hd => rfl); (case hg => rfl); (case hr => first | (go_simp; done) | (go_simp; rfl)); intro gb101 hg w4 hbox hb; have n0_ := Aside0.mk (below_step (by repeat (first | (with_reducible first | exact HB.out | apply below_alloc | apply pw_below_drewN | apply below_drew1) | exact HB.out)) hb); have n1_ := Aside0.mk (hbox); have n2_ := Aside0.mk ((by rw [hg]; exact (below_size (by repeat (first | (with_reducible first | exact HB.out | apply below_alloc | apply pw_below_drewN | apply below_drew1) | exact HB.out))) : w.heap.size ≤ gb101)); have n3_ := Aside0.mk ((by rw [hg]; exact (below_size (by repeat (first | (with_reducible first | exact HB.out | apply below_alloc | apply pw_below_drewN | apply below_drew1) | exact HB.out))) : w.heap.size ≤ gb101)); clear HB; have HB := n0_; have BK101 := n1_; have GW101 := n2_; have GE101 := n3_; clear n0_ n1_ n2_ n3_; clear hb hbox hg) | ((with_reducible refine gate_dst (N := 7) rfl ?_); refine box_event ?hg (N := 7) ?hd (cs := #[.int .i64 0, .int .i64 0]) (t := 23) ?hr ?_; (case hd => rfl); (case hg => rfl); (case hr => first | (go_simp; done) | (go_simp; rfl)); intro gb102 hg w5 hbox hb; have n0_ := Aside0.mk (blk_below (g := gb101) (o := .cells #[.int .i64 0, .int .i64 0] 23 (0, 0)) (by (with_reducible repeat (first | refine blk_drewN ?_ _ | refine blk_drew ?_ | refine blk_alloc ?_ _)); exact BK101.out) hb); have n1_ := Aside0.mk (below_step (by repeat (first | (with_reducible first | exact HB.out | apply below_alloc | apply pw_below_drewN | apply below_drew1 | refine below_set ?_ GE101.out) | exact HB.out)) hb); have n2_ := Aside0.mk (hbox); have n3_ := Aside0.mk ((by rw [hg]; exact (below_size (by repeat (first | (with_reducible first | exact HB.out | apply below_alloc | apply pw_below_drewN | apply below_drew1 | refine below_set ?_ GE101.out) | exact HB.out))) : w.heap.size ≤ gb102)); have n4_ := Aside0.mk ((by rw [hg]; exact (below_size (by repeat (first | (with_reducible first | exact HB.out | apply below_alloc | apply pw_below_drewN | apply below_drew1 | refine below_set ?_ GE101.out) | exact HB.out))) : w.heap.size ≤ gb102)); have n5_ := Aside0.mk ((by rw [hg]; exact Nat.ne_of_lt (blk_lt (g := gb101) (o := .cells #[.int .i64 0, .int .i64 0] 23 (0, 0)) (by (with_reducible repeat (first | refine blk_drewN ?_ _ | refine blk_drew ?_ | refine blk_alloc ?_ _)); exact BK101.out)) : gb101 ≠ gb102)); have n6_ := Aside0.mk ((by rw [hg]; exact Nat.ne_of_gt (blk_lt (g := gb101) (o := .cells #[.int .i64 0, .int .i64 0] 23 (0, 0)) (by (with_reducible repeat (first | refine blk_drewN ?_ _ | refine blk_drew ?_ | refine blk_alloc ?_ _)); exact BK101.out)) : gb102 ≠ gb101)); clear BK101; clear HB; have BK101 := n0_; have HB := n1_; have BK102 := n2_; have GW102 := n3_; have GE102 := n4_; have NB101_102 := n5_; have NB102_101 := n6_; clear n0_ n1_ n2_ n3_ n4_ n5_ n6_; clear hb hbox hg; have hnb6 := NB101_102.out; have hnc6 := NB102_101.out; have hcz7_0 : w5.cell? ⟨gb101, 0, none⟩ = some (.int .i64 0) := (blk_cell BK101.out 0).trans rfl; have hcz7_1 : w5.cell? ⟨gb101, 1, none⟩ = some (.int .i64 0) := (blk_cell BK101.out 1).trans rfl; have hfz7_0 := blk_frozen BK101.out 0; have hfz7_1 := blk_frozen BK101.out 1; have hcz8_0 : w5.cell? ⟨gb102, 0, none⟩ = some (.int .i64 0) := (blk_cell BK102.out 0).trans rfl; have hcz8_1 : w5.cell? ⟨gb102, 1, none⟩ = some (.int .i64 0) := (blk_cell BK102.out 1).trans rfl; have hfz8_0 := blk_frozen BK102.out 0; have hfz8_1 := blk_frozen BK102.out 1))
  go_loopg [] k (fun kq w' => ∃ (x102000_1 : Int) (x102001_1 : Int) (x103000_1 : Int) (x103001_1 : Int), Aside0 (num_around.l0 kq a0 a1 a2 x102000_1 x102001_1 x103000_1 x103001_1 = some (r1, r2, r3, r4)) ∧ Aside0 (kq ≤ k) ∧ Aside0 (w'.heap[gb101]? = some (.cells #[.int .i64 x102000_1, .int .i64 x102001_1] 23 (0, 0))) ∧ Aside0 (w'.heap[gb102]? = some (.cells #[.int .i64 x103000_1, .int .i64 x103001_1] 23 (0, 0))) ∧ Aside0 (Below w.heap.size w w'))
  case atStart => exact ⟨(0), (1), (1), (1), H', ⟨Nat.le_refl _⟩, ⟨by (with_reducible repeat (first | refine blk_drewN ?_ _ | refine blk_drew ?_ | refine blk_alloc ?_ _)); refine blk_far ?_ NB101_102.out _; (with_reducible repeat (first | refine blk_drewN ?_ _ | refine blk_drew ?_ | refine blk_alloc ?_ _)); refine blk_far ?_ NB101_102.out _; (with_reducible repeat (first | refine blk_drewN ?_ _ | refine blk_drew ?_ | refine blk_alloc ?_ _)); refine blk_put (cs := #[.int .i64 0, .int .i64 0]) ?_ 1 _ rfl; (with_reducible repeat (first | refine blk_drewN ?_ _ | refine blk_drew ?_ | refine blk_alloc ?_ _)); refine blk_put (cs := #[.int .i64 0, .int .i64 0]) ?_ 0 _ rfl; (with_reducible repeat (first | refine blk_drewN ?_ _ | refine blk_drew ?_ | refine blk_alloc ?_ _)); exact BK101.out⟩, ⟨by (with_reducible repeat (first | refine blk_drewN ?_ _ | refine blk_drew ?_ | refine blk_alloc ?_ _)); refine blk_put (cs := #[.int .i64 1, .int .i64 0]) ?_ 1 _ rfl; (with_reducible repeat (first | refine blk_drewN ?_ _ | refine blk_drew ?_ | refine blk_alloc ?_ _)); refine blk_put (cs := #[.int .i64 0, .int .i64 0]) ?_ 0 _ rfl; (with_reducible repeat (first | refine blk_drewN ?_ _ | refine blk_drew ?_ | refine blk_alloc ?_ _)); refine blk_far ?_ NB102_101.out _; (with_reducible repeat (first | refine blk_drewN ?_ _ | refine blk_drew ?_ | refine blk_alloc ?_ _)); refine blk_far ?_ NB102_101.out _; (with_reducible repeat (first | refine blk_drewN ?_ _ | refine blk_drew ?_ | refine blk_alloc ?_ _)); exact BK102.out⟩, ⟨by repeat (first | (with_reducible first | exact HB.out | apply below_alloc | apply pw_below_drewN | apply below_drew1 | refine below_set ?_ GE101.out | refine below_set ?_ GE102.out) | exact HB.out)⟩⟩
  case round =>
    clear H'
    try clear p2
    try clear c6
    try clear c7
    try clear hcz7_0
    try clear hcz7_1
    try clear hcz8_0
    try clear hcz8_1
    try clear hfz7_0
    try clear hfz7_1
    try clear hfz8_0
    try clear hfz8_1
    obtain ⟨x102000_1, x102001_1, x103000_1, x103001_1, HA, HK1, BK101, BK102, HB⟩ := hrel
    cases gk with
    | zero => exact absurd HA.out (by simp [num_around.l0])
    | succ k1 =>
      have H := HA.out
      clear HA
      simp only [num_around.l0] at H
      by_cases c9 : x103001_1 = 0
      · rw [if_pos c9] at H
        exact absurd H (by simp)
      · rw [if_neg c9] at H
        have c9b0 : (x103001_1 == 0) = false := beq_eq_false_iff_ne.mpr c9
        have c9b1 : (x103001_1 != 0) = true := bne_iff_ne.mpr c9
        have HC10 := Aside0.mk H
        clear H
        have hnb11 := NB101_102.out
        have hnc11 := NB102_101.out
        have hcz12_0 : wr.cell? ⟨gb101, 0, none⟩ = some (.int .i64 x102000_1) := (blk_cell BK101.out 0).trans rfl
        have hcz12_1 : wr.cell? ⟨gb101, 1, none⟩ = some (.int .i64 x102001_1) := (blk_cell BK101.out 1).trans rfl
        have hfz12_0 := blk_frozen BK101.out 0
        have hfz12_1 := blk_frozen BK101.out 1
        have hcz13_0 : wr.cell? ⟨gb102, 0, none⟩ = some (.int .i64 x103000_1) := (blk_cell BK102.out 0).trans rfl
        have hcz13_1 : wr.cell? ⟨gb102, 1, none⟩ = some (.int .i64 x103001_1) := (blk_cell BK102.out 1).trans rfl
        have hfz13_0 := blk_frozen BK102.out 0
        have hfz13_1 := blk_frozen BK102.out 1
        go_upto_if 31 with (fail)
        go_cut [8] (fun v8 wc => ∃ (kq : Nat) (x8_9 : Int), v8 = .int .i64 x8_9 ∧ Aside0 (num_around.j1 kq a0 a1 a2 x8_9 x102000_1 x102001_1 x103000_1 x103001_1 = some (r1, r2, r3, r4)) ∧ Aside0 (kq ≤ k1) ∧ Aside0 (wc.heap[gb101]? = some (.cells #[.int .i64 x102000_1, .int .i64 x102001_1] 23 (0, 0))) ∧ Aside0 (wc.heap[gb102]? = some (.cells #[.int .i64 x103000_1, .int .i64 x103001_1] 23 (0, 0))) ∧ Aside0 (Below w.heap.size w wc))
        case first =>
          have H := HC10.out
          clear HC10
          by_cases c14 : (wrap64 ((wrap64 (x103000_1 * a1)) - (wrap64 (a0 * x103001_1)))) > 0
          · rw [if_pos c14] at H
            have c14b0 : decide (0 < (wrap64 ((wrap64 (x103000_1 * a1)) - (wrap64 (a0 * x103001_1))))) = true := decide_eq_true c14
            clear c14
            (first | rw [c14b0] | (simp only [i64_w, i32_w]; rw [c14b0]) | skip)
            by_cases c15 : (wrap64 ((wrap64 (x103000_1 * a1)) - (wrap64 (a0 * x103001_1)))) = 0
            · rw [if_pos c15] at H
              exact absurd H (by simp)
            · rw [if_neg c15] at H
              have c15b0 : ((wrap64 ((wrap64 (x103000_1 * a1)) - (wrap64 (a0 * x103001_1)))) == 0) = false := beq_eq_false_iff_ne.mpr c15
              have c15b1 : ((wrap64 ((wrap64 (x103000_1 * a1)) - (wrap64 (a0 * x103001_1)))) != 0) = true := bne_iff_ne.mpr c15
              obtain ⟨ji16, hji16⟩ : ∃ j_ : Int, (mn (wrap64 (Int.tdiv (wrap64 (a2 - x102001_1)) x103001_1)) (wrap64 (Int.tdiv (wrap64 ((wrap64 (a0 * x102001_1)) - (wrap64 (x102000_1 * a1)))) (wrap64 ((wrap64 (x103000_1 * a1)) - (wrap64 (a0 * x103001_1))))))) = j_ := ⟨_, rfl⟩
              replace H : (num_around.j1 k1 a0 a1 a2 ji16 x102000_1 x102001_1 x103000_1 x103001_1) = some (r1, r2, r3, r4) := by first | (rw [hji16] at H; exact H) | (simp only [hji16] at H ⊢; exact H)
              have hji16_ : (if (wrap64 (Int.tdiv (wrap64 ((wrap64 (a0 * x102001_1)) - (wrap64 (x102000_1 * a1)))) (wrap64 ((wrap64 (x103000_1 * a1)) - (wrap64 (a0 * x103001_1)))))) < (wrap64 (Int.tdiv (wrap64 (a2 - x102001_1)) x103001_1)) then (wrap64 (Int.tdiv (wrap64 ((wrap64 (a0 * x102001_1)) - (wrap64 (x102000_1 * a1)))) (wrap64 ((wrap64 (x103000_1 * a1)) - (wrap64 (a0 * x103001_1)))))) else (wrap64 (Int.tdiv (wrap64 (a2 - x102001_1)) x103001_1))) = ji16 := hji16
              have H' := Aside0.mk H
              clear H
              have hnb17 := NB101_102.out
              have hnc17 := NB102_101.out
              have hcz18_0 : wr.cell? ⟨gb101, 0, none⟩ = some (.int .i64 x102000_1) := (blk_cell BK101.out 0).trans rfl
              have hcz18_1 : wr.cell? ⟨gb101, 1, none⟩ = some (.int .i64 x102001_1) := (blk_cell BK101.out 1).trans rfl
              have hfz18_0 := blk_frozen BK101.out 0
              have hfz18_1 := blk_frozen BK101.out 1
              go_wp2
              go_meet
              case rel => exact ⟨_, (ji16), (by first | rfl | (simp; done) | (simp only [← hji16] <;> (first | rfl | simp)) | (simp [*]; done)), H', ⟨by have := HK1.out; first | omega | exact Nat.le_refl _⟩, ⟨by (with_reducible repeat (first | refine blk_drewN ?_ _ | refine blk_drew ?_ | refine blk_alloc ?_ _)); exact BK101.out⟩, ⟨by (with_reducible repeat (first | refine blk_drewN ?_ _ | refine blk_drew ?_ | refine blk_alloc ?_ _)); exact BK102.out⟩, ⟨by repeat (first | (with_reducible first | exact HB.out | apply below_alloc | apply pw_below_drewN | apply below_drew1 | refine below_set ?_ GE101.out | refine below_set ?_ GE102.out) | exact HB.out)⟩⟩
          · rw [if_neg c14] at H
            have c14b0 : decide (0 < (wrap64 ((wrap64 (x103000_1 * a1)) - (wrap64 (a0 * x103001_1))))) = false := decide_eq_false c14
            clear c14
            (first | rw [c14b0] | (simp only [i64_w, i32_w]; rw [c14b0]) | skip)
            have H' := Aside0.mk H
            clear H
            go_wp2
            go_meet
            case rel => exact ⟨_, (wrap64 (Int.tdiv (wrap64 (a2 - x102001_1)) x103001_1)), (by first | rfl | (simp; done) | (simp [*]; done)), H', ⟨by have := HK1.out; first | omega | exact Nat.le_refl _⟩, ⟨by (with_reducible repeat (first | refine blk_drewN ?_ _ | refine blk_drew ?_ | refine blk_alloc ?_ _)); exact BK101.out⟩, ⟨by (with_reducible repeat (first | refine blk_drewN ?_ _ | refine blk_drew ?_ | refine blk_alloc ?_ _)); exact BK102.out⟩, ⟨by repeat (first | (with_reducible first | exact HB.out | apply below_alloc | apply pw_below_drewN | apply below_drew1 | refine below_set ?_ GE101.out | refine below_set ?_ GE102.out) | exact HB.out)⟩⟩
        case rest =>
          clear HC10
          try clear c1
          try clear p2
          try clear c6
          try clear p6
          try clear c7
          try clear c9
          try clear c9b0
          try clear c9b1
          try clear c11
          try clear c14
          try clear c14b0
          try clear c15
          try clear c15b0
          try clear c15b1
          try clear c17
          try clear hcz12_0
          try clear hcz12_1
          try clear hcz13_0
          try clear hcz13_1
          try clear hcz18_0
          try clear hcz18_1
          try clear hcz7_0
          try clear hcz7_1
          try clear hcz8_0
          try clear hcz8_1
          try clear hfz12_0
          try clear hfz12_1
          try clear hfz13_0
          try clear hfz13_1
          try clear hfz18_0
          try clear hfz18_1
          try clear hfz7_0
          try clear hfz7_1
          try clear hfz8_0
          try clear hfz8_1
          try clear p2
          obtain ⟨kq, x8_9, rfl, HA, HJ9, BK101, BK102, HB⟩ := hcut
          cases kq with
          | zero => exact absurd HA.out (by simp [num_around.j1])
          | succ kj9 =>
            have H := HA.out
            clear HA
            simp only [num_around.j1] at H
            by_cases c19 : (wrap64 (x102001_1 + (wrap64 (x8_9 * x103001_1)))) = 0
            · rw [if_pos c19] at H
              exact absurd H (by simp)
            · rw [if_neg c19] at H
              have c19b0 : ((wrap64 (x102001_1 + (wrap64 (x8_9 * x103001_1)))) == 0) = false := beq_eq_false_iff_ne.mpr c19
              have c19b1 : ((wrap64 (x102001_1 + (wrap64 (x8_9 * x103001_1)))) != 0) = true := bne_iff_ne.mpr c19
              by_cases c20 : (wrap64 ((wrap64 (a0 * (wrap64 (x102001_1 + (wrap64 (x8_9 * x103001_1)))))) - (wrap64 ((wrap64 (x102000_1 + (wrap64 (x8_9 * x103000_1)))) * a1)))) > 0
              · rw [if_pos c20] at H
                have c20b0 : decide (0 < (wrap64 ((wrap64 (a0 * (wrap64 (x102001_1 + (wrap64 (x8_9 * x103001_1)))))) - (wrap64 ((wrap64 (x102000_1 + (wrap64 (x8_9 * x103000_1)))) * a1))))) = true := decide_eq_true c20
                clear c20
                by_cases c21 : (wrap64 ((wrap64 (a0 * (wrap64 (x102001_1 + (wrap64 (x8_9 * x103001_1)))))) - (wrap64 ((wrap64 (x102000_1 + (wrap64 (x8_9 * x103000_1)))) * a1)))) = 0
                · rw [if_pos c21] at H
                  exact absurd H (by simp)
                · rw [if_neg c21] at H
                  have c21b0 : ((wrap64 ((wrap64 (a0 * (wrap64 (x102001_1 + (wrap64 (x8_9 * x103001_1)))))) - (wrap64 ((wrap64 (x102000_1 + (wrap64 (x8_9 * x103000_1)))) * a1)))) == 0) = false := beq_eq_false_iff_ne.mpr c21
                  have c21b1 : ((wrap64 ((wrap64 (a0 * (wrap64 (x102001_1 + (wrap64 (x8_9 * x103001_1)))))) - (wrap64 ((wrap64 (x102000_1 + (wrap64 (x8_9 * x103000_1)))) * a1)))) != 0) = true := bne_iff_ne.mpr c21
                  obtain ⟨ji22, hji22⟩ : ∃ j_ : Int, (mn (wrap64 (Int.tdiv (wrap64 (a2 - x103001_1)) (wrap64 (x102001_1 + (wrap64 (x8_9 * x103001_1)))))) (wrap64 (Int.tdiv (wrap64 ((wrap64 ((wrap64 (x103000_1 * a1)) - (wrap64 (a0 * x103001_1)))) - 1)) (wrap64 ((wrap64 (a0 * (wrap64 (x102001_1 + (wrap64 (x8_9 * x103001_1)))))) - (wrap64 ((wrap64 (x102000_1 + (wrap64 (x8_9 * x103000_1)))) * a1))))))) = j_ := ⟨_, rfl⟩
                  replace H : (if x8_9 = 0 then (if (ji22) = 0 then (some (wrap64 (x102000_1 + (wrap64 (x8_9 * x103000_1))), wrap64 (x102001_1 + (wrap64 (x8_9 * x103001_1))), wrap64 (x103000_1 + (wrap64 ((ji22) * (wrap64 (x102000_1 + (wrap64 (x8_9 * x103000_1))))))), wrap64 (x103001_1 + (wrap64 ((ji22) * (wrap64 (x102001_1 + (wrap64 (x8_9 * x103001_1))))))))) else (num_around.l0 kj9 a0 a1 a2 (wrap64 (x102000_1 + (wrap64 (x8_9 * x103000_1)))) (wrap64 (x102001_1 + (wrap64 (x8_9 * x103001_1)))) (wrap64 (x103000_1 + (wrap64 ((ji22) * (wrap64 (x102000_1 + (wrap64 (x8_9 * x103000_1)))))))) (wrap64 (x103001_1 + (wrap64 ((ji22) * (wrap64 (x102001_1 + (wrap64 (x8_9 * x103001_1)))))))))) else (num_around.l0 kj9 a0 a1 a2 (wrap64 (x102000_1 + (wrap64 (x8_9 * x103000_1)))) (wrap64 (x102001_1 + (wrap64 (x8_9 * x103001_1)))) (wrap64 (x103000_1 + (wrap64 ((ji22) * (wrap64 (x102000_1 + (wrap64 (x8_9 * x103000_1)))))))) (wrap64 (x103001_1 + (wrap64 ((ji22) * (wrap64 (x102001_1 + (wrap64 (x8_9 * x103001_1)))))))))) = some (r1, r2, r3, r4) := by first | (rw [hji22] at H; exact H) | (simp only [hji22] at H ⊢; exact H)
                  have hji22_ : (if (wrap64 (Int.tdiv (wrap64 ((wrap64 ((wrap64 (x103000_1 * a1)) - (wrap64 (a0 * x103001_1)))) - 1)) (wrap64 ((wrap64 (a0 * (wrap64 (x102001_1 + (wrap64 (x8_9 * x103001_1)))))) - (wrap64 ((wrap64 (x102000_1 + (wrap64 (x8_9 * x103000_1)))) * a1)))))) < (wrap64 (Int.tdiv (wrap64 (a2 - x103001_1)) (wrap64 (x102001_1 + (wrap64 (x8_9 * x103001_1)))))) then (wrap64 (Int.tdiv (wrap64 ((wrap64 ((wrap64 (x103000_1 * a1)) - (wrap64 (a0 * x103001_1)))) - 1)) (wrap64 ((wrap64 (a0 * (wrap64 (x102001_1 + (wrap64 (x8_9 * x103001_1)))))) - (wrap64 ((wrap64 (x102000_1 + (wrap64 (x8_9 * x103000_1)))) * a1)))))) else (wrap64 (Int.tdiv (wrap64 (a2 - x103001_1)) (wrap64 (x102001_1 + (wrap64 (x8_9 * x103001_1))))))) = ji22 := hji22
                  by_cases c23 : x8_9 = 0
                  · rw [if_pos c23] at H
                    have c23b0 : (x8_9 == 0) = true := beq_iff_eq.mpr c23
                    have c23b1 : (x8_9 != 0) = false := bne_eq_false_iff_eq.mpr c23
                    clear c23
                    by_cases c24 : (ji22) = 0
                    · rw [if_pos c24] at H
                      have c24b0 : ((ji22) == 0) = true := beq_iff_eq.mpr c24
                      have c24b1 : ((ji22) != 0) = false := bne_eq_false_iff_eq.mpr c24
                      clear c24
                      simp only [Option.some.injEq, Prod.mk.injEq] at H
                      obtain ⟨rfl, rfl, rfl, rfl⟩ := H
                      have hnb25 := NB101_102.out
                      have hnc25 := NB102_101.out
                      have hcz26_0 : wc.cell? ⟨gb101, 0, none⟩ = some (.int .i64 x102000_1) := (blk_cell BK101.out 0).trans rfl
                      have hcz26_1 : wc.cell? ⟨gb101, 1, none⟩ = some (.int .i64 x102001_1) := (blk_cell BK101.out 1).trans rfl
                      have hfz26_0 := blk_frozen BK101.out 0
                      have hfz26_1 := blk_frozen BK101.out 1
                      have hcz27_0 : wc.cell? ⟨gb102, 0, none⟩ = some (.int .i64 x103000_1) := (blk_cell BK102.out 0).trans rfl
                      have hcz27_1 : wc.cell? ⟨gb102, 1, none⟩ = some (.int .i64 x103001_1) := (blk_cell BK102.out 1).trans rfl
                      have hfz27_0 := blk_frozen BK102.out 0
                      have hfz27_1 := blk_frozen BK102.out 1
                      go_upto_region 13 with (fail)
                      have k1_ : ((((wc.setCell ⟨gb101, 0, none⟩ (.int .i64 (wrap64 (x102000_1 + (wrap64 (x8_9 * x103000_1)))))).setCell ⟨gb101, 1, none⟩ (.int .i64 (wrap64 (x102001_1 + (wrap64 (x8_9 * x103001_1)))))).setCell ⟨gb102, 0, none⟩ (.int .i64 (wrap64 (x103000_1 + (wrap64 ((ji22) * (wrap64 (x102000_1 + (wrap64 (x8_9 * x103000_1)))))))))).setCell ⟨gb102, 1, none⟩ (.int .i64 (wrap64 (x103001_1 + (wrap64 ((ji22) * (wrap64 (x102001_1 + (wrap64 (x8_9 * x103001_1)))))))))).heap[gb101]? = some (.cells #[.int .i64 (wrap64 (x102000_1 + (wrap64 (x8_9 * x103000_1)))), .int .i64 (wrap64 (x102001_1 + (wrap64 (x8_9 * x103001_1))))] 23 (0, 0)) := (by (with_reducible repeat (first | refine blk_drewN ?_ _ | refine blk_drew ?_ | refine blk_alloc ?_ _)); refine blk_far ?_ NB101_102.out _; (with_reducible repeat (first | refine blk_drewN ?_ _ | refine blk_drew ?_ | refine blk_alloc ?_ _)); refine blk_far ?_ NB101_102.out _; (with_reducible repeat (first | refine blk_drewN ?_ _ | refine blk_drew ?_ | refine blk_alloc ?_ _)); refine blk_put (cs := #[.int .i64 (wrap64 (x102000_1 + (wrap64 (x8_9 * x103000_1)))), .int .i64 x102001_1]) ?_ 1 _ rfl; (with_reducible repeat (first | refine blk_drewN ?_ _ | refine blk_drew ?_ | refine blk_alloc ?_ _)); refine blk_put (cs := #[.int .i64 x102000_1, .int .i64 x102001_1]) ?_ 0 _ rfl; (with_reducible repeat (first | refine blk_drewN ?_ _ | refine blk_drew ?_ | refine blk_alloc ?_ _)); exact BK101.out)
                      have k2_ : ((((wc.setCell ⟨gb101, 0, none⟩ (.int .i64 (wrap64 (x102000_1 + (wrap64 (x8_9 * x103000_1)))))).setCell ⟨gb101, 1, none⟩ (.int .i64 (wrap64 (x102001_1 + (wrap64 (x8_9 * x103001_1)))))).setCell ⟨gb102, 0, none⟩ (.int .i64 (wrap64 (x103000_1 + (wrap64 ((ji22) * (wrap64 (x102000_1 + (wrap64 (x8_9 * x103000_1)))))))))).setCell ⟨gb102, 1, none⟩ (.int .i64 (wrap64 (x103001_1 + (wrap64 ((ji22) * (wrap64 (x102001_1 + (wrap64 (x8_9 * x103001_1)))))))))).heap[gb102]? = some (.cells #[.int .i64 (wrap64 (x103000_1 + (wrap64 ((ji22) * (wrap64 (x102000_1 + (wrap64 (x8_9 * x103000_1)))))))), .int .i64 (wrap64 (x103001_1 + (wrap64 ((ji22) * (wrap64 (x102001_1 + (wrap64 (x8_9 * x103001_1))))))))] 23 (0, 0)) := (by (with_reducible repeat (first | refine blk_drewN ?_ _ | refine blk_drew ?_ | refine blk_alloc ?_ _)); refine blk_put (cs := #[.int .i64 (wrap64 (x103000_1 + (wrap64 ((ji22) * (wrap64 (x102000_1 + (wrap64 (x8_9 * x103000_1)))))))), .int .i64 x103001_1]) ?_ 1 _ rfl; (with_reducible repeat (first | refine blk_drewN ?_ _ | refine blk_drew ?_ | refine blk_alloc ?_ _)); refine blk_put (cs := #[.int .i64 x103000_1, .int .i64 x103001_1]) ?_ 0 _ rfl; (with_reducible repeat (first | refine blk_drewN ?_ _ | refine blk_drew ?_ | refine blk_alloc ?_ _)); refine blk_far ?_ NB102_101.out _; (with_reducible repeat (first | refine blk_drewN ?_ _ | refine blk_drew ?_ | refine blk_alloc ?_ _)); refine blk_far ?_ NB102_101.out _; (with_reducible repeat (first | refine blk_drewN ?_ _ | refine blk_drew ?_ | refine blk_alloc ?_ _)); exact BK102.out)
                      have kb_ : Below w.heap.size w ((((wc.setCell ⟨gb101, 0, none⟩ (.int .i64 (wrap64 (x102000_1 + (wrap64 (x8_9 * x103000_1)))))).setCell ⟨gb101, 1, none⟩ (.int .i64 (wrap64 (x102001_1 + (wrap64 (x8_9 * x103001_1)))))).setCell ⟨gb102, 0, none⟩ (.int .i64 (wrap64 (x103000_1 + (wrap64 ((ji22) * (wrap64 (x102000_1 + (wrap64 (x8_9 * x103000_1)))))))))).setCell ⟨gb102, 1, none⟩ (.int .i64 (wrap64 (x103001_1 + (wrap64 ((ji22) * (wrap64 (x102001_1 + (wrap64 (x8_9 * x103001_1)))))))))) := by repeat (first | (with_reducible first | exact HB.out | apply below_alloc | apply pw_below_drewN | apply below_drew1 | refine below_set ?_ GE101.out | refine below_set ?_ GE102.out) | exact HB.out)
                      generalize ((((wc.setCell ⟨gb101, 0, none⟩ (.int .i64 (wrap64 (x102000_1 + (wrap64 (x8_9 * x103000_1)))))).setCell ⟨gb101, 1, none⟩ (.int .i64 (wrap64 (x102001_1 + (wrap64 (x8_9 * x103001_1)))))).setCell ⟨gb102, 0, none⟩ (.int .i64 (wrap64 (x103000_1 + (wrap64 ((ji22) * (wrap64 (x102000_1 + (wrap64 (x8_9 * x103000_1)))))))))).setCell ⟨gb102, 1, none⟩ (.int .i64 (wrap64 (x103001_1 + (wrap64 ((ji22) * (wrap64 (x102001_1 + (wrap64 (x8_9 * x103001_1)))))))))) = W_ at k1_ k2_ kb_ ⊢
                      have cek1_0 := (blk_cell k1_ 0).trans rfl
                      have cfk1_0 := blk_frozen k1_ 0
                      have cek1_1 := (blk_cell k1_ 1).trans rfl
                      have cfk1_1 := blk_frozen k1_ 1
                      have cek2_0 := (blk_cell k2_ 0).trans rfl
                      have cfk2_0 := blk_frozen k2_ 0
                      have cek2_1 := (blk_cell k2_ 1).trans rfl
                      have cfk2_1 := blk_frozen k2_ 1
                      have HK1_ := Aside0.mk k1_
                      have HK2_ := Aside0.mk k2_
                      clear k1_ k2_
                      refine start_ (n := 4) (S := fun w' => w' = W_.drew) (ds := []) #[false, false, false, false] (by kernel_rfl) rfl rfl rfl (fun hHeld => ?_)
                      refine take_ (i := 0) (N := some 113) (v := ?_) (a' := ?_) #[true, false, false, false] rfl rfl (by kernel_rfl) (fun _ _ _ h => h) (Or.inl ⟨by rfl, ?_⟩) hHeld ?_ ?_
                      rotate_left
                      · rintro w' rfl
                        go_simp
                        with_reducible rfl
                      rotate_left
                      · simp only [Act.put, List.setIfInBounds_toArray, List.set_cons_zero, List.set_cons_succ, i64_w, i32_w]
                        rfl
                      refine take_ (i := 1) (N := some 114) (v := ?_) (a' := ?_) #[true, true, false, false] rfl rfl (by kernel_rfl) (fun _ _ _ h => h) (Or.inl ⟨by rfl, ?_⟩) hHeld ?_ ?_
                      rotate_left
                      · rintro w' rfl
                        go_simp
                        with_reducible rfl
                      rotate_left
                      · simp only [Act.put, List.setIfInBounds_toArray, List.set_cons_zero, List.set_cons_succ, i64_w, i32_w]
                        rfl
                      refine one_ (i := 2) (N := none) #[true, true, true, false] rfl rfl (by kernel_rfl) (by decide) (fun K hK => ?_)
                      refine skip_ (w1 := ?_) (by rfl) rfl ?_ ?_
                      rotate_left
                      · go_simp
                        with_reducible rfl
                      refine hK.out _ _ (congrArg World.drew (self2_ HK1_.out)) (fun hHeld => ?_)
                      clear hK K
                      rw [self2_ HK1_.out]
                      refine one_ (i := 3) (N := none) #[true, true, true, true] rfl rfl (by kernel_rfl) (by decide) (fun K hK => ?_)
                      refine skip_ (w1 := ?_) (by rfl) rfl ?_ ?_
                      rotate_left
                      · go_simp
                        with_reducible rfl
                      refine hK.out _ _ (congrArg World.drew (self2_ HK2_.out)) (fun hHeld => ?_)
                      clear hK K
                      rw [self2_ HK2_.out]
                      refine done_ (by kernel_rfl) ?_
                      go_wp2
                      refine bodyPost_ret (results_cc rfl _ _ gb101 gb102 23 23 #[.int .i64 (wrap64 (x102000_1 + (wrap64 (x8_9 * x103000_1)))), .int .i64 (wrap64 (x102001_1 + (wrap64 (x8_9 * x103001_1))))] #[.int .i64 (wrap64 (x103000_1 + (wrap64 ((ji22) * (wrap64 (x102000_1 + (wrap64 (x8_9 * x103000_1)))))))), .int .i64 (wrap64 (x103001_1 + (wrap64 ((ji22) * (wrap64 (x102001_1 + (wrap64 (x8_9 * x103001_1))))))))] (0, 0) (0, 0) _ _ rfl HK1_.out Tryz.underlying23 rfl (by kernel_rfl) rfl HK2_.out Tryz.underlying23 rfl (by kernel_rfl)) rfl ?_
                      exact ⟨by first | rfl | (simp [errW_none, errW_some] <;> rfl) | (simp only [← hji22]; first | rfl | (simp [errW_none, errW_some] <;> rfl)) | (simp [*, errW_none, errW_some] <;> rfl), pw_below_drewN kb_ 1⟩
                    · rw [if_neg c24] at H
                      have c24b0 : ((ji22) == 0) = false := beq_eq_false_iff_ne.mpr c24
                      have c24b1 : ((ji22) != 0) = true := bne_iff_ne.mpr c24
                      have H' := Aside0.mk H
                      clear H
                      have hnb28 := NB101_102.out
                      have hnc28 := NB102_101.out
                      have hcz29_0 : wc.cell? ⟨gb101, 0, none⟩ = some (.int .i64 x102000_1) := (blk_cell BK101.out 0).trans rfl
                      have hcz29_1 : wc.cell? ⟨gb101, 1, none⟩ = some (.int .i64 x102001_1) := (blk_cell BK101.out 1).trans rfl
                      have hfz29_0 := blk_frozen BK101.out 0
                      have hfz29_1 := blk_frozen BK101.out 1
                      have hcz30_0 : wc.cell? ⟨gb102, 0, none⟩ = some (.int .i64 x103000_1) := (blk_cell BK102.out 0).trans rfl
                      have hcz30_1 : wc.cell? ⟨gb102, 1, none⟩ = some (.int .i64 x103001_1) := (blk_cell BK102.out 1).trans rfl
                      have hfz30_0 := blk_frozen BK102.out 0
                      have hfz30_1 := blk_frozen BK102.out 1
                      go_wp2
                      go_roundg kj9
                      case measure => have := HK1.out; have := HJ9.out; omega
                      case rel => exact ⟨(wrap64 (x102000_1 + (wrap64 (x8_9 * x103000_1)))), (wrap64 (x102001_1 + (wrap64 (x8_9 * x103001_1)))), (wrap64 (x103000_1 + (wrap64 ((ji22) * (wrap64 (x102000_1 + (wrap64 (x8_9 * x103000_1)))))))), (wrap64 (x103001_1 + (wrap64 ((ji22) * (wrap64 (x102001_1 + (wrap64 (x8_9 * x103001_1)))))))), H', ⟨by have := HK1.out; have := HJ9.out; omega⟩, ⟨by (with_reducible repeat (first | refine blk_drewN ?_ _ | refine blk_drew ?_ | refine blk_alloc ?_ _)); refine blk_far ?_ NB101_102.out _; (with_reducible repeat (first | refine blk_drewN ?_ _ | refine blk_drew ?_ | refine blk_alloc ?_ _)); refine blk_far ?_ NB101_102.out _; (with_reducible repeat (first | refine blk_drewN ?_ _ | refine blk_drew ?_ | refine blk_alloc ?_ _)); refine blk_put (cs := #[.int .i64 (wrap64 (x102000_1 + (wrap64 (x8_9 * x103000_1)))), .int .i64 x102001_1]) ?_ 1 _ rfl; (with_reducible repeat (first | refine blk_drewN ?_ _ | refine blk_drew ?_ | refine blk_alloc ?_ _)); refine blk_put (cs := #[.int .i64 x102000_1, .int .i64 x102001_1]) ?_ 0 _ rfl; (with_reducible repeat (first | refine blk_drewN ?_ _ | refine blk_drew ?_ | refine blk_alloc ?_ _)); exact BK101.out⟩, ⟨by (with_reducible repeat (first | refine blk_drewN ?_ _ | refine blk_drew ?_ | refine blk_alloc ?_ _)); refine blk_put (cs := #[.int .i64 (wrap64 (x103000_1 + (wrap64 ((ji22) * (wrap64 (x102000_1 + (wrap64 (x8_9 * x103000_1)))))))), .int .i64 x103001_1]) ?_ 1 _ rfl; (with_reducible repeat (first | refine blk_drewN ?_ _ | refine blk_drew ?_ | refine blk_alloc ?_ _)); refine blk_put (cs := #[.int .i64 x103000_1, .int .i64 x103001_1]) ?_ 0 _ rfl; (with_reducible repeat (first | refine blk_drewN ?_ _ | refine blk_drew ?_ | refine blk_alloc ?_ _)); refine blk_far ?_ NB102_101.out _; (with_reducible repeat (first | refine blk_drewN ?_ _ | refine blk_drew ?_ | refine blk_alloc ?_ _)); refine blk_far ?_ NB102_101.out _; (with_reducible repeat (first | refine blk_drewN ?_ _ | refine blk_drew ?_ | refine blk_alloc ?_ _)); exact BK102.out⟩, ⟨by repeat (first | (with_reducible first | exact HB.out | apply below_alloc | apply pw_below_drewN | apply below_drew1 | refine below_set ?_ GE101.out | refine below_set ?_ GE102.out) | exact HB.out)⟩⟩
                  · rw [if_neg c23] at H
                    have c23b0 : (x8_9 == 0) = false := beq_eq_false_iff_ne.mpr c23
                    have c23b1 : (x8_9 != 0) = true := bne_iff_ne.mpr c23
                    have H' := Aside0.mk H
                    clear H
                    have hnb31 := NB101_102.out
                    have hnc31 := NB102_101.out
                    have hcz32_0 : wc.cell? ⟨gb101, 0, none⟩ = some (.int .i64 x102000_1) := (blk_cell BK101.out 0).trans rfl
                    have hcz32_1 : wc.cell? ⟨gb101, 1, none⟩ = some (.int .i64 x102001_1) := (blk_cell BK101.out 1).trans rfl
                    have hfz32_0 := blk_frozen BK101.out 0
                    have hfz32_1 := blk_frozen BK101.out 1
                    have hcz33_0 : wc.cell? ⟨gb102, 0, none⟩ = some (.int .i64 x103000_1) := (blk_cell BK102.out 0).trans rfl
                    have hcz33_1 : wc.cell? ⟨gb102, 1, none⟩ = some (.int .i64 x103001_1) := (blk_cell BK102.out 1).trans rfl
                    have hfz33_0 := blk_frozen BK102.out 0
                    have hfz33_1 := blk_frozen BK102.out 1
                    go_wp2
                    go_roundg kj9
                    case measure => have := HK1.out; have := HJ9.out; omega
                    case rel => exact ⟨(wrap64 (x102000_1 + (wrap64 (x8_9 * x103000_1)))), (wrap64 (x102001_1 + (wrap64 (x8_9 * x103001_1)))), (wrap64 (x103000_1 + (wrap64 ((ji22) * (wrap64 (x102000_1 + (wrap64 (x8_9 * x103000_1)))))))), (wrap64 (x103001_1 + (wrap64 ((ji22) * (wrap64 (x102001_1 + (wrap64 (x8_9 * x103001_1)))))))), H', ⟨by have := HK1.out; have := HJ9.out; omega⟩, ⟨by (with_reducible repeat (first | refine blk_drewN ?_ _ | refine blk_drew ?_ | refine blk_alloc ?_ _)); refine blk_far ?_ NB101_102.out _; (with_reducible repeat (first | refine blk_drewN ?_ _ | refine blk_drew ?_ | refine blk_alloc ?_ _)); refine blk_far ?_ NB101_102.out _; (with_reducible repeat (first | refine blk_drewN ?_ _ | refine blk_drew ?_ | refine blk_alloc ?_ _)); refine blk_put (cs := #[.int .i64 (wrap64 (x102000_1 + (wrap64 (x8_9 * x103000_1)))), .int .i64 x102001_1]) ?_ 1 _ rfl; (with_reducible repeat (first | refine blk_drewN ?_ _ | refine blk_drew ?_ | refine blk_alloc ?_ _)); refine blk_put (cs := #[.int .i64 x102000_1, .int .i64 x102001_1]) ?_ 0 _ rfl; (with_reducible repeat (first | refine blk_drewN ?_ _ | refine blk_drew ?_ | refine blk_alloc ?_ _)); exact BK101.out⟩, ⟨by (with_reducible repeat (first | refine blk_drewN ?_ _ | refine blk_drew ?_ | refine blk_alloc ?_ _)); refine blk_put (cs := #[.int .i64 (wrap64 (x103000_1 + (wrap64 ((ji22) * (wrap64 (x102000_1 + (wrap64 (x8_9 * x103000_1)))))))), .int .i64 x103001_1]) ?_ 1 _ rfl; (with_reducible repeat (first | refine blk_drewN ?_ _ | refine blk_drew ?_ | refine blk_alloc ?_ _)); refine blk_put (cs := #[.int .i64 x103000_1, .int .i64 x103001_1]) ?_ 0 _ rfl; (with_reducible repeat (first | refine blk_drewN ?_ _ | refine blk_drew ?_ | refine blk_alloc ?_ _)); refine blk_far ?_ NB102_101.out _; (with_reducible repeat (first | refine blk_drewN ?_ _ | refine blk_drew ?_ | refine blk_alloc ?_ _)); refine blk_far ?_ NB102_101.out _; (with_reducible repeat (first | refine blk_drewN ?_ _ | refine blk_drew ?_ | refine blk_alloc ?_ _)); exact BK102.out⟩, ⟨by repeat (first | (with_reducible first | exact HB.out | apply below_alloc | apply pw_below_drewN | apply below_drew1 | refine below_set ?_ GE101.out | refine below_set ?_ GE102.out) | exact HB.out)⟩⟩
              · rw [if_neg c20] at H
                have c20b0 : decide (0 < (wrap64 ((wrap64 (a0 * (wrap64 (x102001_1 + (wrap64 (x8_9 * x103001_1)))))) - (wrap64 ((wrap64 (x102000_1 + (wrap64 (x8_9 * x103000_1)))) * a1))))) = false := decide_eq_false c20
                clear c20
                by_cases c34 : x8_9 = 0
                · rw [if_pos c34] at H
                  have c34b0 : (x8_9 == 0) = true := beq_iff_eq.mpr c34
                  have c34b1 : (x8_9 != 0) = false := bne_eq_false_iff_eq.mpr c34
                  clear c34
                  by_cases c35 : (wrap64 (Int.tdiv (wrap64 (a2 - x103001_1)) (wrap64 (x102001_1 + (wrap64 (x8_9 * x103001_1)))))) = 0
                  · rw [if_pos c35] at H
                    have c35b0 : ((wrap64 (Int.tdiv (wrap64 (a2 - x103001_1)) (wrap64 (x102001_1 + (wrap64 (x8_9 * x103001_1)))))) == 0) = true := beq_iff_eq.mpr c35
                    have c35b1 : ((wrap64 (Int.tdiv (wrap64 (a2 - x103001_1)) (wrap64 (x102001_1 + (wrap64 (x8_9 * x103001_1)))))) != 0) = false := bne_eq_false_iff_eq.mpr c35
                    clear c35
                    simp only [Option.some.injEq, Prod.mk.injEq] at H
                    obtain ⟨rfl, rfl, rfl, rfl⟩ := H
                    have hnb36 := NB101_102.out
                    have hnc36 := NB102_101.out
                    have hcz37_0 : wc.cell? ⟨gb101, 0, none⟩ = some (.int .i64 x102000_1) := (blk_cell BK101.out 0).trans rfl
                    have hcz37_1 : wc.cell? ⟨gb101, 1, none⟩ = some (.int .i64 x102001_1) := (blk_cell BK101.out 1).trans rfl
                    have hfz37_0 := blk_frozen BK101.out 0
                    have hfz37_1 := blk_frozen BK101.out 1
                    have hcz38_0 : wc.cell? ⟨gb102, 0, none⟩ = some (.int .i64 x103000_1) := (blk_cell BK102.out 0).trans rfl
                    have hcz38_1 : wc.cell? ⟨gb102, 1, none⟩ = some (.int .i64 x103001_1) := (blk_cell BK102.out 1).trans rfl
                    have hfz38_0 := blk_frozen BK102.out 0
                    have hfz38_1 := blk_frozen BK102.out 1
                    go_upto_region 13 with (fail)
                    have k1_ : ((((wc.setCell ⟨gb101, 0, none⟩ (.int .i64 (wrap64 (x102000_1 + (wrap64 (x8_9 * x103000_1)))))).setCell ⟨gb101, 1, none⟩ (.int .i64 (wrap64 (x102001_1 + (wrap64 (x8_9 * x103001_1)))))).setCell ⟨gb102, 0, none⟩ (.int .i64 (wrap64 (x103000_1 + (wrap64 ((wrap64 (Int.tdiv (wrap64 (a2 - x103001_1)) (wrap64 (x102001_1 + (wrap64 (x8_9 * x103001_1)))))) * (wrap64 (x102000_1 + (wrap64 (x8_9 * x103000_1)))))))))).setCell ⟨gb102, 1, none⟩ (.int .i64 (wrap64 (x103001_1 + (wrap64 ((wrap64 (Int.tdiv (wrap64 (a2 - x103001_1)) (wrap64 (x102001_1 + (wrap64 (x8_9 * x103001_1)))))) * (wrap64 (x102001_1 + (wrap64 (x8_9 * x103001_1)))))))))).heap[gb101]? = some (.cells #[.int .i64 (wrap64 (x102000_1 + (wrap64 (x8_9 * x103000_1)))), .int .i64 (wrap64 (x102001_1 + (wrap64 (x8_9 * x103001_1))))] 23 (0, 0)) := (by (with_reducible repeat (first | refine blk_drewN ?_ _ | refine blk_drew ?_ | refine blk_alloc ?_ _)); refine blk_far ?_ NB101_102.out _; (with_reducible repeat (first | refine blk_drewN ?_ _ | refine blk_drew ?_ | refine blk_alloc ?_ _)); refine blk_far ?_ NB101_102.out _; (with_reducible repeat (first | refine blk_drewN ?_ _ | refine blk_drew ?_ | refine blk_alloc ?_ _)); refine blk_put (cs := #[.int .i64 (wrap64 (x102000_1 + (wrap64 (x8_9 * x103000_1)))), .int .i64 x102001_1]) ?_ 1 _ rfl; (with_reducible repeat (first | refine blk_drewN ?_ _ | refine blk_drew ?_ | refine blk_alloc ?_ _)); refine blk_put (cs := #[.int .i64 x102000_1, .int .i64 x102001_1]) ?_ 0 _ rfl; (with_reducible repeat (first | refine blk_drewN ?_ _ | refine blk_drew ?_ | refine blk_alloc ?_ _)); exact BK101.out)
                    have k2_ : ((((wc.setCell ⟨gb101, 0, none⟩ (.int .i64 (wrap64 (x102000_1 + (wrap64 (x8_9 * x103000_1)))))).setCell ⟨gb101, 1, none⟩ (.int .i64 (wrap64 (x102001_1 + (wrap64 (x8_9 * x103001_1)))))).setCell ⟨gb102, 0, none⟩ (.int .i64 (wrap64 (x103000_1 + (wrap64 ((wrap64 (Int.tdiv (wrap64 (a2 - x103001_1)) (wrap64 (x102001_1 + (wrap64 (x8_9 * x103001_1)))))) * (wrap64 (x102000_1 + (wrap64 (x8_9 * x103000_1)))))))))).setCell ⟨gb102, 1, none⟩ (.int .i64 (wrap64 (x103001_1 + (wrap64 ((wrap64 (Int.tdiv (wrap64 (a2 - x103001_1)) (wrap64 (x102001_1 + (wrap64 (x8_9 * x103001_1)))))) * (wrap64 (x102001_1 + (wrap64 (x8_9 * x103001_1)))))))))).heap[gb102]? = some (.cells #[.int .i64 (wrap64 (x103000_1 + (wrap64 ((wrap64 (Int.tdiv (wrap64 (a2 - x103001_1)) (wrap64 (x102001_1 + (wrap64 (x8_9 * x103001_1)))))) * (wrap64 (x102000_1 + (wrap64 (x8_9 * x103000_1)))))))), .int .i64 (wrap64 (x103001_1 + (wrap64 ((wrap64 (Int.tdiv (wrap64 (a2 - x103001_1)) (wrap64 (x102001_1 + (wrap64 (x8_9 * x103001_1)))))) * (wrap64 (x102001_1 + (wrap64 (x8_9 * x103001_1))))))))] 23 (0, 0)) := (by (with_reducible repeat (first | refine blk_drewN ?_ _ | refine blk_drew ?_ | refine blk_alloc ?_ _)); refine blk_put (cs := #[.int .i64 (wrap64 (x103000_1 + (wrap64 ((wrap64 (Int.tdiv (wrap64 (a2 - x103001_1)) (wrap64 (x102001_1 + (wrap64 (x8_9 * x103001_1)))))) * (wrap64 (x102000_1 + (wrap64 (x8_9 * x103000_1)))))))), .int .i64 x103001_1]) ?_ 1 _ rfl; (with_reducible repeat (first | refine blk_drewN ?_ _ | refine blk_drew ?_ | refine blk_alloc ?_ _)); refine blk_put (cs := #[.int .i64 x103000_1, .int .i64 x103001_1]) ?_ 0 _ rfl; (with_reducible repeat (first | refine blk_drewN ?_ _ | refine blk_drew ?_ | refine blk_alloc ?_ _)); refine blk_far ?_ NB102_101.out _; (with_reducible repeat (first | refine blk_drewN ?_ _ | refine blk_drew ?_ | refine blk_alloc ?_ _)); refine blk_far ?_ NB102_101.out _; (with_reducible repeat (first | refine blk_drewN ?_ _ | refine blk_drew ?_ | refine blk_alloc ?_ _)); exact BK102.out)
                    have kb_ : Below w.heap.size w ((((wc.setCell ⟨gb101, 0, none⟩ (.int .i64 (wrap64 (x102000_1 + (wrap64 (x8_9 * x103000_1)))))).setCell ⟨gb101, 1, none⟩ (.int .i64 (wrap64 (x102001_1 + (wrap64 (x8_9 * x103001_1)))))).setCell ⟨gb102, 0, none⟩ (.int .i64 (wrap64 (x103000_1 + (wrap64 ((wrap64 (Int.tdiv (wrap64 (a2 - x103001_1)) (wrap64 (x102001_1 + (wrap64 (x8_9 * x103001_1)))))) * (wrap64 (x102000_1 + (wrap64 (x8_9 * x103000_1)))))))))).setCell ⟨gb102, 1, none⟩ (.int .i64 (wrap64 (x103001_1 + (wrap64 ((wrap64 (Int.tdiv (wrap64 (a2 - x103001_1)) (wrap64 (x102001_1 + (wrap64 (x8_9 * x103001_1)))))) * (wrap64 (x102001_1 + (wrap64 (x8_9 * x103001_1)))))))))) := by repeat (first | (with_reducible first | exact HB.out | apply below_alloc | apply pw_below_drewN | apply below_drew1 | refine below_set ?_ GE101.out | refine below_set ?_ GE102.out) | exact HB.out)
                    generalize ((((wc.setCell ⟨gb101, 0, none⟩ (.int .i64 (wrap64 (x102000_1 + (wrap64 (x8_9 * x103000_1)))))).setCell ⟨gb101, 1, none⟩ (.int .i64 (wrap64 (x102001_1 + (wrap64 (x8_9 * x103001_1)))))).setCell ⟨gb102, 0, none⟩ (.int .i64 (wrap64 (x103000_1 + (wrap64 ((wrap64 (Int.tdiv (wrap64 (a2 - x103001_1)) (wrap64 (x102001_1 + (wrap64 (x8_9 * x103001_1)))))) * (wrap64 (x102000_1 + (wrap64 (x8_9 * x103000_1)))))))))).setCell ⟨gb102, 1, none⟩ (.int .i64 (wrap64 (x103001_1 + (wrap64 ((wrap64 (Int.tdiv (wrap64 (a2 - x103001_1)) (wrap64 (x102001_1 + (wrap64 (x8_9 * x103001_1)))))) * (wrap64 (x102001_1 + (wrap64 (x8_9 * x103001_1)))))))))) = W_ at k1_ k2_ kb_ ⊢
                    have cek1_0 := (blk_cell k1_ 0).trans rfl
                    have cfk1_0 := blk_frozen k1_ 0
                    have cek1_1 := (blk_cell k1_ 1).trans rfl
                    have cfk1_1 := blk_frozen k1_ 1
                    have cek2_0 := (blk_cell k2_ 0).trans rfl
                    have cfk2_0 := blk_frozen k2_ 0
                    have cek2_1 := (blk_cell k2_ 1).trans rfl
                    have cfk2_1 := blk_frozen k2_ 1
                    have HK1_ := Aside0.mk k1_
                    have HK2_ := Aside0.mk k2_
                    clear k1_ k2_
                    refine start_ (n := 4) (S := fun w' => w' = W_.drew) (ds := []) #[false, false, false, false] (by kernel_rfl) rfl rfl rfl (fun hHeld => ?_)
                    refine take_ (i := 0) (N := some 113) (v := ?_) (a' := ?_) #[true, false, false, false] rfl rfl (by kernel_rfl) (fun _ _ _ h => h) (Or.inl ⟨by rfl, ?_⟩) hHeld ?_ ?_
                    rotate_left
                    · rintro w' rfl
                      go_simp
                      with_reducible rfl
                    rotate_left
                    · simp only [Act.put, List.setIfInBounds_toArray, List.set_cons_zero, List.set_cons_succ, i64_w, i32_w]
                      rfl
                    refine take_ (i := 1) (N := some 114) (v := ?_) (a' := ?_) #[true, true, false, false] rfl rfl (by kernel_rfl) (fun _ _ _ h => h) (Or.inl ⟨by rfl, ?_⟩) hHeld ?_ ?_
                    rotate_left
                    · rintro w' rfl
                      go_simp
                      with_reducible rfl
                    rotate_left
                    · simp only [Act.put, List.setIfInBounds_toArray, List.set_cons_zero, List.set_cons_succ, i64_w, i32_w]
                      rfl
                    refine one_ (i := 2) (N := none) #[true, true, true, false] rfl rfl (by kernel_rfl) (by decide) (fun K hK => ?_)
                    refine skip_ (w1 := ?_) (by rfl) rfl ?_ ?_
                    rotate_left
                    · go_simp
                      with_reducible rfl
                    refine hK.out _ _ (congrArg World.drew (self2_ HK1_.out)) (fun hHeld => ?_)
                    clear hK K
                    rw [self2_ HK1_.out]
                    refine one_ (i := 3) (N := none) #[true, true, true, true] rfl rfl (by kernel_rfl) (by decide) (fun K hK => ?_)
                    refine skip_ (w1 := ?_) (by rfl) rfl ?_ ?_
                    rotate_left
                    · go_simp
                      with_reducible rfl
                    refine hK.out _ _ (congrArg World.drew (self2_ HK2_.out)) (fun hHeld => ?_)
                    clear hK K
                    rw [self2_ HK2_.out]
                    refine done_ (by kernel_rfl) ?_
                    go_wp2
                    refine bodyPost_ret (results_cc rfl _ _ gb101 gb102 23 23 #[.int .i64 (wrap64 (x102000_1 + (wrap64 (x8_9 * x103000_1)))), .int .i64 (wrap64 (x102001_1 + (wrap64 (x8_9 * x103001_1))))] #[.int .i64 (wrap64 (x103000_1 + (wrap64 ((wrap64 (Int.tdiv (wrap64 (a2 - x103001_1)) (wrap64 (x102001_1 + (wrap64 (x8_9 * x103001_1)))))) * (wrap64 (x102000_1 + (wrap64 (x8_9 * x103000_1)))))))), .int .i64 (wrap64 (x103001_1 + (wrap64 ((wrap64 (Int.tdiv (wrap64 (a2 - x103001_1)) (wrap64 (x102001_1 + (wrap64 (x8_9 * x103001_1)))))) * (wrap64 (x102001_1 + (wrap64 (x8_9 * x103001_1))))))))] (0, 0) (0, 0) _ _ rfl HK1_.out Tryz.underlying23 rfl (by kernel_rfl) rfl HK2_.out Tryz.underlying23 rfl (by kernel_rfl)) rfl ?_
                    exact ⟨by first | rfl | (simp [errW_none, errW_some] <;> rfl) | (simp [*, errW_none, errW_some] <;> rfl), pw_below_drewN kb_ 1⟩
                  · rw [if_neg c35] at H
                    have c35b0 : ((wrap64 (Int.tdiv (wrap64 (a2 - x103001_1)) (wrap64 (x102001_1 + (wrap64 (x8_9 * x103001_1)))))) == 0) = false := beq_eq_false_iff_ne.mpr c35
                    have c35b1 : ((wrap64 (Int.tdiv (wrap64 (a2 - x103001_1)) (wrap64 (x102001_1 + (wrap64 (x8_9 * x103001_1)))))) != 0) = true := bne_iff_ne.mpr c35
                    have H' := Aside0.mk H
                    clear H
                    have hnb39 := NB101_102.out
                    have hnc39 := NB102_101.out
                    have hcz40_0 : wc.cell? ⟨gb101, 0, none⟩ = some (.int .i64 x102000_1) := (blk_cell BK101.out 0).trans rfl
                    have hcz40_1 : wc.cell? ⟨gb101, 1, none⟩ = some (.int .i64 x102001_1) := (blk_cell BK101.out 1).trans rfl
                    have hfz40_0 := blk_frozen BK101.out 0
                    have hfz40_1 := blk_frozen BK101.out 1
                    have hcz41_0 : wc.cell? ⟨gb102, 0, none⟩ = some (.int .i64 x103000_1) := (blk_cell BK102.out 0).trans rfl
                    have hcz41_1 : wc.cell? ⟨gb102, 1, none⟩ = some (.int .i64 x103001_1) := (blk_cell BK102.out 1).trans rfl
                    have hfz41_0 := blk_frozen BK102.out 0
                    have hfz41_1 := blk_frozen BK102.out 1
                    go_wp2
                    go_roundg kj9
                    case measure => have := HK1.out; have := HJ9.out; omega
                    case rel => exact ⟨(wrap64 (x102000_1 + (wrap64 (x8_9 * x103000_1)))), (wrap64 (x102001_1 + (wrap64 (x8_9 * x103001_1)))), (wrap64 (x103000_1 + (wrap64 ((wrap64 (Int.tdiv (wrap64 (a2 - x103001_1)) (wrap64 (x102001_1 + (wrap64 (x8_9 * x103001_1)))))) * (wrap64 (x102000_1 + (wrap64 (x8_9 * x103000_1)))))))), (wrap64 (x103001_1 + (wrap64 ((wrap64 (Int.tdiv (wrap64 (a2 - x103001_1)) (wrap64 (x102001_1 + (wrap64 (x8_9 * x103001_1)))))) * (wrap64 (x102001_1 + (wrap64 (x8_9 * x103001_1)))))))), H', ⟨by have := HK1.out; have := HJ9.out; omega⟩, ⟨by (with_reducible repeat (first | refine blk_drewN ?_ _ | refine blk_drew ?_ | refine blk_alloc ?_ _)); refine blk_far ?_ NB101_102.out _; (with_reducible repeat (first | refine blk_drewN ?_ _ | refine blk_drew ?_ | refine blk_alloc ?_ _)); refine blk_far ?_ NB101_102.out _; (with_reducible repeat (first | refine blk_drewN ?_ _ | refine blk_drew ?_ | refine blk_alloc ?_ _)); refine blk_put (cs := #[.int .i64 (wrap64 (x102000_1 + (wrap64 (x8_9 * x103000_1)))), .int .i64 x102001_1]) ?_ 1 _ rfl; (with_reducible repeat (first | refine blk_drewN ?_ _ | refine blk_drew ?_ | refine blk_alloc ?_ _)); refine blk_put (cs := #[.int .i64 x102000_1, .int .i64 x102001_1]) ?_ 0 _ rfl; (with_reducible repeat (first | refine blk_drewN ?_ _ | refine blk_drew ?_ | refine blk_alloc ?_ _)); exact BK101.out⟩, ⟨by (with_reducible repeat (first | refine blk_drewN ?_ _ | refine blk_drew ?_ | refine blk_alloc ?_ _)); refine blk_put (cs := #[.int .i64 (wrap64 (x103000_1 + (wrap64 ((wrap64 (Int.tdiv (wrap64 (a2 - x103001_1)) (wrap64 (x102001_1 + (wrap64 (x8_9 * x103001_1)))))) * (wrap64 (x102000_1 + (wrap64 (x8_9 * x103000_1)))))))), .int .i64 x103001_1]) ?_ 1 _ rfl; (with_reducible repeat (first | refine blk_drewN ?_ _ | refine blk_drew ?_ | refine blk_alloc ?_ _)); refine blk_put (cs := #[.int .i64 x103000_1, .int .i64 x103001_1]) ?_ 0 _ rfl; (with_reducible repeat (first | refine blk_drewN ?_ _ | refine blk_drew ?_ | refine blk_alloc ?_ _)); refine blk_far ?_ NB102_101.out _; (with_reducible repeat (first | refine blk_drewN ?_ _ | refine blk_drew ?_ | refine blk_alloc ?_ _)); refine blk_far ?_ NB102_101.out _; (with_reducible repeat (first | refine blk_drewN ?_ _ | refine blk_drew ?_ | refine blk_alloc ?_ _)); exact BK102.out⟩, ⟨by repeat (first | (with_reducible first | exact HB.out | apply below_alloc | apply pw_below_drewN | apply below_drew1 | refine below_set ?_ GE101.out | refine below_set ?_ GE102.out) | exact HB.out)⟩⟩
                · rw [if_neg c34] at H
                  have c34b0 : (x8_9 == 0) = false := beq_eq_false_iff_ne.mpr c34
                  have c34b1 : (x8_9 != 0) = true := bne_iff_ne.mpr c34
                  have H' := Aside0.mk H
                  clear H
                  have hnb42 := NB101_102.out
                  have hnc42 := NB102_101.out
                  have hcz43_0 : wc.cell? ⟨gb101, 0, none⟩ = some (.int .i64 x102000_1) := (blk_cell BK101.out 0).trans rfl
                  have hcz43_1 : wc.cell? ⟨gb101, 1, none⟩ = some (.int .i64 x102001_1) := (blk_cell BK101.out 1).trans rfl
                  have hfz43_0 := blk_frozen BK101.out 0
                  have hfz43_1 := blk_frozen BK101.out 1
                  have hcz44_0 : wc.cell? ⟨gb102, 0, none⟩ = some (.int .i64 x103000_1) := (blk_cell BK102.out 0).trans rfl
                  have hcz44_1 : wc.cell? ⟨gb102, 1, none⟩ = some (.int .i64 x103001_1) := (blk_cell BK102.out 1).trans rfl
                  have hfz44_0 := blk_frozen BK102.out 0
                  have hfz44_1 := blk_frozen BK102.out 1
                  go_wp2
                  go_roundg kj9
                  case measure => have := HK1.out; have := HJ9.out; omega
                  case rel => exact ⟨(wrap64 (x102000_1 + (wrap64 (x8_9 * x103000_1)))), (wrap64 (x102001_1 + (wrap64 (x8_9 * x103001_1)))), (wrap64 (x103000_1 + (wrap64 ((wrap64 (Int.tdiv (wrap64 (a2 - x103001_1)) (wrap64 (x102001_1 + (wrap64 (x8_9 * x103001_1)))))) * (wrap64 (x102000_1 + (wrap64 (x8_9 * x103000_1)))))))), (wrap64 (x103001_1 + (wrap64 ((wrap64 (Int.tdiv (wrap64 (a2 - x103001_1)) (wrap64 (x102001_1 + (wrap64 (x8_9 * x103001_1)))))) * (wrap64 (x102001_1 + (wrap64 (x8_9 * x103001_1)))))))), H', ⟨by have := HK1.out; have := HJ9.out; omega⟩, ⟨by (with_reducible repeat (first | refine blk_drewN ?_ _ | refine blk_drew ?_ | refine blk_alloc ?_ _)); refine blk_far ?_ NB101_102.out _; (with_reducible repeat (first | refine blk_drewN ?_ _ | refine blk_drew ?_ | refine blk_alloc ?_ _)); refine blk_far ?_ NB101_102.out _; (with_reducible repeat (first | refine blk_drewN ?_ _ | refine blk_drew ?_ | refine blk_alloc ?_ _)); refine blk_put (cs := #[.int .i64 (wrap64 (x102000_1 + (wrap64 (x8_9 * x103000_1)))), .int .i64 x102001_1]) ?_ 1 _ rfl; (with_reducible repeat (first | refine blk_drewN ?_ _ | refine blk_drew ?_ | refine blk_alloc ?_ _)); refine blk_put (cs := #[.int .i64 x102000_1, .int .i64 x102001_1]) ?_ 0 _ rfl; (with_reducible repeat (first | refine blk_drewN ?_ _ | refine blk_drew ?_ | refine blk_alloc ?_ _)); exact BK101.out⟩, ⟨by (with_reducible repeat (first | refine blk_drewN ?_ _ | refine blk_drew ?_ | refine blk_alloc ?_ _)); refine blk_put (cs := #[.int .i64 (wrap64 (x103000_1 + (wrap64 ((wrap64 (Int.tdiv (wrap64 (a2 - x103001_1)) (wrap64 (x102001_1 + (wrap64 (x8_9 * x103001_1)))))) * (wrap64 (x102000_1 + (wrap64 (x8_9 * x103000_1)))))))), .int .i64 x103001_1]) ?_ 1 _ rfl; (with_reducible repeat (first | refine blk_drewN ?_ _ | refine blk_drew ?_ | refine blk_alloc ?_ _)); refine blk_put (cs := #[.int .i64 x103000_1, .int .i64 x103001_1]) ?_ 0 _ rfl; (with_reducible repeat (first | refine blk_drewN ?_ _ | refine blk_drew ?_ | refine blk_alloc ?_ _)); refine blk_far ?_ NB102_101.out _; (with_reducible repeat (first | refine blk_drewN ?_ _ | refine blk_drew ?_ | refine blk_alloc ?_ _)); refine blk_far ?_ NB102_101.out _; (with_reducible repeat (first | refine blk_drewN ?_ _ | refine blk_drew ?_ | refine blk_alloc ?_ _)); exact BK102.out⟩, ⟨by repeat (first | (with_reducible first | exact HB.out | apply below_alloc | apply pw_below_drewN | apply below_drew1 | refine below_set ?_ GE101.out | refine below_set ?_ GE102.out) | exact HB.out)⟩⟩
end Go.Proofs.YtdjnneflpkllmaaGreatDoor.Q
