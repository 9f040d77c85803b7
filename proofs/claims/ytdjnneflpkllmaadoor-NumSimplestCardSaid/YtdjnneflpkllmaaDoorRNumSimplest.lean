-- printed
import Derived.Test.YtdjnneflpkllmaaDoorRx0
import Derived.Test.YtdjnneflpkllmaaDoorR0
import Derived.Test.YtdjnneflpkllmaaDoorR3
import Derived.Test.YtdjnneflpkllmaaDoorR9
import Derived.Test.YtdjnneflpkllmaaDoorR21
import Derived.Test.YtdjnneflpkllmaaDoorR38
namespace Go.Proofs.YtdjnneflpkllmaaDoor.Q
open Go.RowKit Go.Proofs.YtdjnneflpkllmaaDoorW.PrintWords Go.Proofs.YtdjnneflpkllmaaDoorW.PrintLast Go.Proofs.YtdjnneflpkllmaaDoorW.PrintMore
attribute [local go_sem] max2_int min2_int max_two min_two max_three min_three max_four min_four   -- for this text's walks alone
set_option linter.unusedVariables false
set_option linter.unusedSimpArgs false

/-! ### merinolaw01_NumSimplest: function 7 -/
mutual
def merinolaw01_NumSimplest.j0 : Nat → Int → Int → Bool → Int → Int → Int → Int → Int → Int → Option (Bool)
  | 0, _, _, _, _, _, _, _, _, _ => none
  | k + 1, x2, x3, x59, x584000, x584001, x585000, x585001, x589000, x589001 => if x59 = true then (some false) else (if x3 < 1 then (merinolaw01_NumSimplest.j1 k x2 x3 true x589000 x589001) else ((merinolaw01_before.f k x584000 x584001 x2 x3).bind fun t595 => (if t595 = true then ((merinolaw01_before.f k x2 x3 x585000 x585001).bind fun t596 => (merinolaw01_NumSimplest.j1 k x2 x3 (!t596) x589000 x589001)) else (merinolaw01_NumSimplest.j1 k x2 x3 true x589000 x589001))))
def merinolaw01_NumSimplest.j1 : Nat → Int → Int → Bool → Int → Int → Option (Bool)
  | 0, _, _, _, _, _ => none
  | k + 1, x2, x3, x81, x589000, x589001 => if x81 = true then ((merinolaw01_alive.f).bind fun t597 => (some t597)) else (if x589001 = x3 then ((merinolaw01_distance.f k x589000).bind fun bt599 => ((merinolaw01_distance.f k x2).bind fun bt603 => ((merinoref01_Compare.f k bt599.1 bt599.2 bt603.1 bt603.2).bind fun t607 => (if t607 ≤ 0 then ((merinolaw01_alive.f).bind fun t608 => (some t608)) else (some false))))) else (if x589001 < x3 then ((merinolaw01_alive.f).bind fun t598 => (some t598)) else (some false)))
end
def merinolaw01_NumSimplest.f (k : Nat) (a0_0 : Int) (a0_1 : Int) (a1_0 : Int) (a1_1 : Int) (a2 : Int) (a3 : Int) : Option (Bool) := (num_Between.f k a0_0 a0_1 a1_0 a1_1).bind fun bt585 => (if bt585.2.2 = 0 then ((num_Cmp.f k a0_0 a0_1 bt585.1 bt585.2.1).bind fun bt590 => ((num_Cmp.f k bt585.1 bt585.2.1 a1_0 a1_1).bind fun bt592 => ((num_Valid.f k bt585.1 bt585.2.1).bind fun t594 => (if t594 = true then (if bt590.2 = 0 then (if bt592.2 = 0 then (if bt590.1 = (-1) then (merinolaw01_NumSimplest.j0 k a2 a3 (bt592.1 != (-1)) a0_0 a0_1 a1_0 a1_1 bt585.1 bt585.2.1) else (merinolaw01_NumSimplest.j0 k a2 a3 true a0_0 a0_1 a1_0 a1_1 bt585.1 bt585.2.1)) else (merinolaw01_NumSimplest.j0 k a2 a3 true a0_0 a0_1 a1_0 a1_1 bt585.1 bt585.2.1)) else (merinolaw01_NumSimplest.j0 k a2 a3 true a0_0 a0_1 a1_0 a1_1 bt585.1 bt585.2.1)) else (merinolaw01_NumSimplest.j0 k a2 a3 true a0_0 a0_1 a1_0 a1_1 bt585.1 bt585.2.1))))) else (if (bt585.1 == 0 && (bt585.2.1 == 0)) = true then ((merinolaw01_alive.f).bind fun t589 => (some t589)) else (some false)))
theorem merinolaw01_NumSimplest.mono_l : ∀ k, (∀ y0 y1 y2 y3 y4 y5 y6 y7 y8, LeO (merinolaw01_NumSimplest.j0 k y0 y1 y2 y3 y4 y5 y6 y7 y8) (merinolaw01_NumSimplest.j0 (k + 1) y0 y1 y2 y3 y4 y5 y6 y7 y8)) ∧ (∀ y0 y1 y2 y3 y4, LeO (merinolaw01_NumSimplest.j1 k y0 y1 y2 y3 y4) (merinolaw01_NumSimplest.j1 (k + 1) y0 y1 y2 y3 y4))
  | 0 => ⟨fun _ _ _ _ _ _ _ _ _ r h => by simp [merinolaw01_NumSimplest.j0] at h, fun _ _ _ _ _ r h => by simp [merinolaw01_NumSimplest.j1] at h⟩
  | k + 1 => by
    obtain ⟨ih0, ih1⟩ := merinolaw01_NumSimplest.mono_l k
    refine ⟨?_, ?_⟩
    · intro y0 y1 y2 y3 y4 y5 y6 y7 y8
      unfold merinolaw01_NumSimplest.j0
      repeat' first
      | (with_reducible exact ih0 _ _ _ _ _ _ _ _ _)
      | (with_reducible exact ih1 _ _ _ _ _)
      | (with_reducible exact merinolaw01_before.mono _ _ _ _ _)
      | (with_reducible exact merinolaw01_distance.mono _ _)
      | (with_reducible exact merinoref01_Compare.mono _ _ _ _ _)
      | (with_reducible exact num_Between.mono _ _ _ _ _)
      | (with_reducible exact num_Cmp.mono _ _ _ _ _)
      | (with_reducible exact num_Valid.mono _ _ _)
      | (with_reducible exact LeO.refl _)
      | (with_reducible exact LeO.none _)
      | (with_reducible refine LeO.ite ?_ ?_)
      | (with_reducible refine LeO.bind ?_ (fun _ => ?_))
      | exact ih0 _ _ _ _ _ _ _ _ _
      | exact ih1 _ _ _ _ _
      | exact merinolaw01_before.mono _ _ _ _ _
      | exact merinolaw01_distance.mono _ _
      | exact merinoref01_Compare.mono _ _ _ _ _
      | exact num_Between.mono _ _ _ _ _
      | exact num_Cmp.mono _ _ _ _ _
      | exact num_Valid.mono _ _ _
      | exact LeO.none _
      | refine LeO.ite ?_ ?_
      | refine LeO.bind ?_ (fun _ => ?_)
    · intro y0 y1 y2 y3 y4
      unfold merinolaw01_NumSimplest.j1
      repeat' first
      | (with_reducible exact ih0 _ _ _ _ _ _ _ _ _)
      | (with_reducible exact ih1 _ _ _ _ _)
      | (with_reducible exact merinolaw01_before.mono _ _ _ _ _)
      | (with_reducible exact merinolaw01_distance.mono _ _)
      | (with_reducible exact merinoref01_Compare.mono _ _ _ _ _)
      | (with_reducible exact num_Between.mono _ _ _ _ _)
      | (with_reducible exact num_Cmp.mono _ _ _ _ _)
      | (with_reducible exact num_Valid.mono _ _ _)
      | (with_reducible exact LeO.refl _)
      | (with_reducible exact LeO.none _)
      | (with_reducible refine LeO.ite ?_ ?_)
      | (with_reducible refine LeO.bind ?_ (fun _ => ?_))
      | exact ih0 _ _ _ _ _ _ _ _ _
      | exact ih1 _ _ _ _ _
      | exact merinolaw01_before.mono _ _ _ _ _
      | exact merinolaw01_distance.mono _ _
      | exact merinoref01_Compare.mono _ _ _ _ _
      | exact num_Between.mono _ _ _ _ _
      | exact num_Cmp.mono _ _ _ _ _
      | exact num_Valid.mono _ _ _
      | exact LeO.none _
      | refine LeO.ite ?_ ?_
      | refine LeO.bind ?_ (fun _ => ?_)
theorem merinolaw01_NumSimplest.mono : ∀ a0 a1 a2 a3 a4 a5 k, LeO (merinolaw01_NumSimplest.f k a0 a1 a2 a3 a4 a5) (merinolaw01_NumSimplest.f (k + 1) a0 a1 a2 a3 a4 a5) := by
  intro a0 a1 a2 a3 a4 a5 k
  obtain ⟨ih0, ih1⟩ := merinolaw01_NumSimplest.mono_l k
  unfold merinolaw01_NumSimplest.f
  repeat' first
      | (with_reducible exact ih0 _ _ _ _ _ _ _ _ _)
      | (with_reducible exact ih1 _ _ _ _ _)
      | (with_reducible exact merinolaw01_before.mono _ _ _ _ _)
      | (with_reducible exact merinolaw01_distance.mono _ _)
      | (with_reducible exact merinoref01_Compare.mono _ _ _ _ _)
      | (with_reducible exact num_Between.mono _ _ _ _ _)
      | (with_reducible exact num_Cmp.mono _ _ _ _ _)
      | (with_reducible exact num_Valid.mono _ _ _)
      | (with_reducible exact LeO.refl _)
      | (with_reducible exact LeO.none _)
      | (with_reducible refine LeO.ite ?_ ?_)
      | (with_reducible refine LeO.bind ?_ (fun _ => ?_))
      | exact ih0 _ _ _ _ _ _ _ _ _
      | exact ih1 _ _ _ _ _
      | exact merinolaw01_before.mono _ _ _ _ _
      | exact merinolaw01_distance.mono _ _
      | exact merinoref01_Compare.mono _ _ _ _ _
      | exact num_Between.mono _ _ _ _ _
      | exact num_Cmp.mono _ _ _ _ _
      | exact num_Valid.mono _ _ _
      | exact LeO.none _
      | refine LeO.ite ?_ ?_
      | refine LeO.bind ?_ (fun _ => ?_)
set_option maxHeartbeats 8000000 in
set_option maxRecDepth 100000 in
theorem merinolaw01_NumSimplest.calls (k : Nat) (a0_0 : Int) (a0_1 : Int) (a1_0 : Int) (a1_1 : Int) (a2 : Int) (a3 : Int) (r : Bool) (w : World) (h : merinolaw01_NumSimplest.f k a0_0 a0_1 a1_0 a1_1 a2 a3 = some r) :
    Calls Tryd.prog 7 #[.agg #[.int .i64 a0_0, .int .i64 a0_1], .agg #[.int .i64 a1_0, .int .i64 a1_1], .int .i64 a2, .int .i64 a3] w fun e w' => e = .returned (.bool r) ∧ Below w.heap.size w w' := by
  have hu23 := Tryd.underlying23
  have HB := Aside0.mk (Below.refl w.heap.size w)
  have H : ((num_Between.f k a0_0 a0_1 a1_0 a1_1).bind fun bt585 => (if bt585.2.2 = 0 then ((num_Cmp.f k a0_0 a0_1 bt585.1 bt585.2.1).bind fun bt590 => ((num_Cmp.f k bt585.1 bt585.2.1 a1_0 a1_1).bind fun bt592 => ((num_Valid.f k bt585.1 bt585.2.1).bind fun t594 => (if t594 = true then (if bt590.2 = 0 then (if bt592.2 = 0 then (if bt590.1 = (-1) then (merinolaw01_NumSimplest.j0 k a2 a3 (bt592.1 != (-1)) a0_0 a0_1 a1_0 a1_1 bt585.1 bt585.2.1) else (merinolaw01_NumSimplest.j0 k a2 a3 true a0_0 a0_1 a1_0 a1_1 bt585.1 bt585.2.1)) else (merinolaw01_NumSimplest.j0 k a2 a3 true a0_0 a0_1 a1_0 a1_1 bt585.1 bt585.2.1)) else (merinolaw01_NumSimplest.j0 k a2 a3 true a0_0 a0_1 a1_0 a1_1 bt585.1 bt585.2.1)) else (merinolaw01_NumSimplest.j0 k a2 a3 true a0_0 a0_1 a1_0 a1_1 bt585.1 bt585.2.1))))) else (if (bt585.1 == 0 && (bt585.2.1 == 0)) = true then ((merinolaw01_alive.f).bind fun t589 => (some t589)) else (some false)))) = some r := h
  clear h
  replace H := Option.bind_eq_some_iff.mp H
  obtain ⟨⟨t585, t586, t587⟩, A50, H⟩ := H
  replace H : (if t587 = 0 then ((num_Cmp.f k a0_0 a0_1 t585 t586).bind fun bt590 => ((num_Cmp.f k t585 t586 a1_0 a1_1).bind fun bt592 => ((num_Valid.f k t585 t586).bind fun t594 => (if t594 = true then (if bt590.2 = 0 then (if bt592.2 = 0 then (if bt590.1 = (-1) then (merinolaw01_NumSimplest.j0 k a2 a3 (bt592.1 != (-1)) a0_0 a0_1 a1_0 a1_1 t585 t586) else (merinolaw01_NumSimplest.j0 k a2 a3 true a0_0 a0_1 a1_0 a1_1 t585 t586)) else (merinolaw01_NumSimplest.j0 k a2 a3 true a0_0 a0_1 a1_0 a1_1 t585 t586)) else (merinolaw01_NumSimplest.j0 k a2 a3 true a0_0 a0_1 a1_0 a1_1 t585 t586)) else (merinolaw01_NumSimplest.j0 k a2 a3 true a0_0 a0_1 a1_0 a1_1 t585 t586))))) else (if (t585 == 0 && (t586 == 0)) = true then ((merinolaw01_alive.f).bind fun t589 => (some t589)) else (some false))) = some r := H
  have A5 := Aside0.mk A50
  clear A50
  by_cases c6 : t587 = 0
  · rw [if_pos c6] at H
    have c6b0 : (t587 == 0) = true := beq_iff_eq.mpr c6
    have c6b1 : (t587 != 0) = false := bne_eq_false_iff_eq.mpr c6
    clear c6
    replace H := Option.bind_eq_some_iff.mp H
    obtain ⟨⟨t590, t591⟩, A70, H⟩ := H
    replace H : ((num_Cmp.f k t585 t586 a1_0 a1_1).bind fun bt592 => ((num_Valid.f k t585 t586).bind fun t594 => (if t594 = true then (if t591 = 0 then (if bt592.2 = 0 then (if t590 = (-1) then (merinolaw01_NumSimplest.j0 k a2 a3 (bt592.1 != (-1)) a0_0 a0_1 a1_0 a1_1 t585 t586) else (merinolaw01_NumSimplest.j0 k a2 a3 true a0_0 a0_1 a1_0 a1_1 t585 t586)) else (merinolaw01_NumSimplest.j0 k a2 a3 true a0_0 a0_1 a1_0 a1_1 t585 t586)) else (merinolaw01_NumSimplest.j0 k a2 a3 true a0_0 a0_1 a1_0 a1_1 t585 t586)) else (merinolaw01_NumSimplest.j0 k a2 a3 true a0_0 a0_1 a1_0 a1_1 t585 t586)))) = some r := H
    have A7 := Aside0.mk A70
    clear A70
    replace H := Option.bind_eq_some_iff.mp H
    obtain ⟨⟨t592, t593⟩, A80, H⟩ := H
    replace H : ((num_Valid.f k t585 t586).bind fun t594 => (if t594 = true then (if t591 = 0 then (if t593 = 0 then (if t590 = (-1) then (merinolaw01_NumSimplest.j0 k a2 a3 (t592 != (-1)) a0_0 a0_1 a1_0 a1_1 t585 t586) else (merinolaw01_NumSimplest.j0 k a2 a3 true a0_0 a0_1 a1_0 a1_1 t585 t586)) else (merinolaw01_NumSimplest.j0 k a2 a3 true a0_0 a0_1 a1_0 a1_1 t585 t586)) else (merinolaw01_NumSimplest.j0 k a2 a3 true a0_0 a0_1 a1_0 a1_1 t585 t586)) else (merinolaw01_NumSimplest.j0 k a2 a3 true a0_0 a0_1 a1_0 a1_1 t585 t586))) = some r := H
    have A8 := Aside0.mk A80
    clear A80
    have HC9 := Aside0.mk H
    clear H
    go_enter Tryd.func7, Tryd.ntmps7
    go_upto_region 6 with (first | ((with_reducible refine gate_dst (N := 4) rfl ?_); refine box_event ?hg (N := 4) ?hd (cs := #[.int .i64 a0_0, .int .i64 a0_1]) (t := 23) ?hr ?_; (case hd => rfl); (case hg => rfl); (case hr => first | (go_simp; done) | (go_simp; rfl)); intro gb583 hg w10 hbox hb; have n0_ := Aside0.mk (below_step (by repeat (first | (with_reducible first | exact HB.out | apply below_alloc | apply pw_below_drewN | apply below_drew1) | exact HB.out)) hb); have n1_ := Aside0.mk (hbox); have n2_ := Aside0.mk ((by rw [hg]; exact (below_size (by repeat (first | (with_reducible first | exact HB.out | apply below_alloc | apply pw_below_drewN | apply below_drew1) | exact HB.out))) : w.heap.size ≤ gb583)); have n3_ := Aside0.mk ((by rw [hg]; exact (below_size (by repeat (first | (with_reducible first | exact HB.out | apply below_alloc | apply pw_below_drewN | apply below_drew1) | exact HB.out))) : w.heap.size ≤ gb583)); clear HB; have HB := n0_; have BK583 := n1_; have GW583 := n2_; have GE583 := n3_; clear n0_ n1_ n2_ n3_; clear hb hbox hg) | ((with_reducible refine gate_dst (N := 5) rfl ?_); refine box_event ?hg (N := 5) ?hd (cs := #[.int .i64 a1_0, .int .i64 a1_1]) (t := 23) ?hr ?_; (case hd => rfl); (case hg => rfl); (case hr => first | (go_simp; done) | (go_simp; rfl)); intro gb584 hg w11 hbox hb; have n0_ := Aside0.mk (blk_below (g := gb583) (o := .cells #[.int .i64 a0_0, .int .i64 a0_1] 23 (0, 0)) (by (with_reducible repeat (first | refine blk_drewN ?_ _ | refine blk_drew ?_ | refine blk_alloc ?_ _)); exact BK583.out) hb); have n1_ := Aside0.mk (below_step (by repeat (first | (with_reducible first | exact HB.out | apply below_alloc | apply pw_below_drewN | apply below_drew1 | refine below_set ?_ GE583.out) | exact HB.out)) hb); have n2_ := Aside0.mk (hbox); have n3_ := Aside0.mk ((by rw [hg]; exact (below_size (by repeat (first | (with_reducible first | exact HB.out | apply below_alloc | apply pw_below_drewN | apply below_drew1 | refine below_set ?_ GE583.out) | exact HB.out))) : w.heap.size ≤ gb584)); have n4_ := Aside0.mk ((by rw [hg]; exact (below_size (by repeat (first | (with_reducible first | exact HB.out | apply below_alloc | apply pw_below_drewN | apply below_drew1 | refine below_set ?_ GE583.out) | exact HB.out))) : w.heap.size ≤ gb584)); have n5_ := Aside0.mk ((by rw [hg]; exact Nat.ne_of_lt (blk_lt (g := gb583) (o := .cells #[.int .i64 a0_0, .int .i64 a0_1] 23 (0, 0)) (by (with_reducible repeat (first | refine blk_drewN ?_ _ | refine blk_drew ?_ | refine blk_alloc ?_ _)); exact BK583.out)) : gb583 ≠ gb584)); have n6_ := Aside0.mk ((by rw [hg]; exact Nat.ne_of_gt (blk_lt (g := gb583) (o := .cells #[.int .i64 a0_0, .int .i64 a0_1] 23 (0, 0)) (by (with_reducible repeat (first | refine blk_drewN ?_ _ | refine blk_drew ?_ | refine blk_alloc ?_ _)); exact BK583.out)) : gb584 ≠ gb583)); clear BK583; clear HB; have BK583 := n0_; have HB := n1_; have BK584 := n2_; have GW584 := n3_; have GE584 := n4_; have NB583_584 := n5_; have NB584_583 := n6_; clear n0_ n1_ n2_ n3_ n4_ n5_ n6_; clear hb hbox hg; have hnb12 := NB583_584.out; have hnc12 := NB584_583.out; have hcz13_0 : w11.cell? ⟨gb583, 0, none⟩ = some (.int .i64 a0_0) := (blk_cell BK583.out 0).trans rfl; have hcz13_1 : w11.cell? ⟨gb583, 1, none⟩ = some (.int .i64 a0_1) := (blk_cell BK583.out 1).trans rfl; have hfz13_0 := blk_frozen BK583.out 0; have hfz13_1 := blk_frozen BK583.out 1; have hcz14_0 : w11.cell? ⟨gb584, 0, none⟩ = some (.int .i64 a1_0) := (blk_cell BK584.out 0).trans rfl; have hcz14_1 : w11.cell? ⟨gb584, 1, none⟩ = some (.int .i64 a1_1) := (blk_cell BK584.out 1).trans rfl; have hfz14_0 := blk_frozen BK584.out 0; have hfz14_1 := blk_frozen BK584.out 1) | ((with_reducible refine gate_callee (f := 30) rfl ?_); refine goesL_ (some 18) rfl rfl Tryd.func30 (by kernel_rfl) rfl #[.agg #[.int .i64 a0_0, .int .i64 a0_1], .agg #[.int .i64 a1_0, .int .i64 a1_1]] rfl (by (try simp only [List.map_toArray, List.map_cons, List.map_nil]); first | done | rfl | (simp only [List.length_drop, List.length_take]; rfl)) ?_; (with_reducible refine (num_Between.calls k a0_0 a0_1 a1_0 a1_1 t585 t586 t587 _ A5.out).mono ?_); rintro e w15 ⟨rfl, hb⟩; refine ⟨_, rfl, ?_⟩; have n0_ := Aside0.mk (blk_below (g := gb583) (o := .cells #[.int .i64 a0_0, .int .i64 a0_1] 23 (0, 0)) (by (with_reducible repeat (first | refine blk_drewN ?_ _ | refine blk_drew ?_ | refine blk_alloc ?_ _)); exact BK583.out) hb); have n1_ := Aside0.mk (blk_below (g := gb584) (o := .cells #[.int .i64 a1_0, .int .i64 a1_1] 23 (0, 0)) (by (with_reducible repeat (first | refine blk_drewN ?_ _ | refine blk_drew ?_ | refine blk_alloc ?_ _)); exact BK584.out) hb); have n2_ := Aside0.mk (below_step (by repeat (first | (with_reducible first | exact HB.out | apply below_alloc | apply pw_below_drewN | apply below_drew1 | refine below_set ?_ GE583.out | refine below_set ?_ GE584.out) | exact HB.out)) hb); clear BK583; clear BK584; clear HB; have BK583 := n0_; have BK584 := n1_; have HB := n2_; clear n0_ n1_ n2_; (try clear hb); (try clear hb2); (try clear hk); (try clear hi)) | ((with_reducible refine gate_dst (N := 9) rfl ?_); refine box_event ?hg (N := 9) ?hd (cs := #[.int .i64 0, .int .i64 0]) (t := 23) ?hr ?_; (case hd => rfl); (case hg => rfl); (case hr => first | (go_simp; done) | (go_simp; rfl)); intro gb588 hg w16 hbox hb; have n0_ := Aside0.mk (blk_below (g := gb583) (o := .cells #[.int .i64 a0_0, .int .i64 a0_1] 23 (0, 0)) (by (with_reducible repeat (first | refine blk_drewN ?_ _ | refine blk_drew ?_ | refine blk_alloc ?_ _)); exact BK583.out) hb); have n1_ := Aside0.mk (blk_below (g := gb584) (o := .cells #[.int .i64 a1_0, .int .i64 a1_1] 23 (0, 0)) (by (with_reducible repeat (first | refine blk_drewN ?_ _ | refine blk_drew ?_ | refine blk_alloc ?_ _)); exact BK584.out) hb); have n2_ := Aside0.mk (below_step (by repeat (first | (with_reducible first | exact HB.out | apply below_alloc | apply pw_below_drewN | apply below_drew1 | refine below_set ?_ GE583.out | refine below_set ?_ GE584.out) | exact HB.out)) hb); have n3_ := Aside0.mk (hbox); have n4_ := Aside0.mk ((by rw [hg]; exact (below_size (by repeat (first | (with_reducible first | exact HB.out | apply below_alloc | apply pw_below_drewN | apply below_drew1 | refine below_set ?_ GE583.out | refine below_set ?_ GE584.out) | exact HB.out))) : w.heap.size ≤ gb588)); have n5_ := Aside0.mk ((by rw [hg]; exact (below_size (by repeat (first | (with_reducible first | exact HB.out | apply below_alloc | apply pw_below_drewN | apply below_drew1 | refine below_set ?_ GE583.out | refine below_set ?_ GE584.out) | exact HB.out))) : w.heap.size ≤ gb588)); have n6_ := Aside0.mk ((by rw [hg]; exact Nat.ne_of_lt (blk_lt (g := gb583) (o := .cells #[.int .i64 a0_0, .int .i64 a0_1] 23 (0, 0)) (by (with_reducible repeat (first | refine blk_drewN ?_ _ | refine blk_drew ?_ | refine blk_alloc ?_ _)); exact BK583.out)) : gb583 ≠ gb588)); have n7_ := Aside0.mk ((by rw [hg]; exact Nat.ne_of_gt (blk_lt (g := gb583) (o := .cells #[.int .i64 a0_0, .int .i64 a0_1] 23 (0, 0)) (by (with_reducible repeat (first | refine blk_drewN ?_ _ | refine blk_drew ?_ | refine blk_alloc ?_ _)); exact BK583.out)) : gb588 ≠ gb583)); have n8_ := Aside0.mk ((by rw [hg]; exact Nat.ne_of_lt (blk_lt (g := gb584) (o := .cells #[.int .i64 a1_0, .int .i64 a1_1] 23 (0, 0)) (by (with_reducible repeat (first | refine blk_drewN ?_ _ | refine blk_drew ?_ | refine blk_alloc ?_ _)); exact BK584.out)) : gb584 ≠ gb588)); have n9_ := Aside0.mk ((by rw [hg]; exact Nat.ne_of_gt (blk_lt (g := gb584) (o := .cells #[.int .i64 a1_0, .int .i64 a1_1] 23 (0, 0)) (by (with_reducible repeat (first | refine blk_drewN ?_ _ | refine blk_drew ?_ | refine blk_alloc ?_ _)); exact BK584.out)) : gb588 ≠ gb584)); clear BK583; clear BK584; clear HB; have BK583 := n0_; have BK584 := n1_; have HB := n2_; have BK588 := n3_; have GW588 := n4_; have GE588 := n5_; have NB583_588 := n6_; have NB588_583 := n7_; have NB584_588 := n8_; have NB588_584 := n9_; clear n0_ n1_ n2_ n3_ n4_ n5_ n6_ n7_ n8_ n9_; clear hb hbox hg; have hnb17 := NB588_583.out; have hnc17 := NB583_588.out; have hnb18 := NB588_584.out; have hnc18 := NB584_588.out; have hcz19_0 : w16.cell? ⟨gb588, 0, none⟩ = some (.int .i64 0) := (blk_cell BK588.out 0).trans rfl; have hcz19_1 : w16.cell? ⟨gb588, 1, none⟩ = some (.int .i64 0) := (blk_cell BK588.out 1).trans rfl; have hfz19_0 := blk_frozen BK588.out 0; have hfz19_1 := blk_frozen BK588.out 1; have hcz20_0 : w16.cell? ⟨gb583, 0, none⟩ = some (.int .i64 a0_0) := (blk_cell BK583.out 0).trans rfl; have hcz20_1 : w16.cell? ⟨gb583, 1, none⟩ = some (.int .i64 a0_1) := (blk_cell BK583.out 1).trans rfl; have hfz20_0 := blk_frozen BK583.out 0; have hfz20_1 := blk_frozen BK583.out 1) | ((with_reducible refine gate_callee (f := 32) rfl ?_); refine goesL_ (some 32) rfl rfl Tryd.func32 (by kernel_rfl) rfl #[.agg #[.int .i64 a0_0, .int .i64 a0_1], .agg #[.int .i64 t585, .int .i64 t586]] rfl (by (try simp only [List.map_toArray, List.map_cons, List.map_nil]); first | done | rfl | (simp only [List.length_drop, List.length_take]; rfl)) ?_; (with_reducible refine (num_Cmp.calls k a0_0 a0_1 t585 t586 t590 t591 _ A7.out).mono ?_); rintro e w21 ⟨rfl, hb⟩; refine ⟨_, rfl, ?_⟩; have n0_ := Aside0.mk (blk_below (g := gb583) (o := .cells #[.int .i64 a0_0, .int .i64 a0_1] 23 (0, 0)) (by (with_reducible repeat (first | refine blk_drewN ?_ _ | refine blk_drew ?_ | refine blk_alloc ?_ _)); refine blk_far ?_ NB583_588.out _; (with_reducible repeat (first | refine blk_drewN ?_ _ | refine blk_drew ?_ | refine blk_alloc ?_ _)); refine blk_far ?_ NB583_588.out _; (with_reducible repeat (first | refine blk_drewN ?_ _ | refine blk_drew ?_ | refine blk_alloc ?_ _)); exact BK583.out) hb); have n1_ := Aside0.mk (blk_below (g := gb584) (o := .cells #[.int .i64 a1_0, .int .i64 a1_1] 23 (0, 0)) (by (with_reducible repeat (first | refine blk_drewN ?_ _ | refine blk_drew ?_ | refine blk_alloc ?_ _)); refine blk_far ?_ NB584_588.out _; (with_reducible repeat (first | refine blk_drewN ?_ _ | refine blk_drew ?_ | refine blk_alloc ?_ _)); refine blk_far ?_ NB584_588.out _; (with_reducible repeat (first | refine blk_drewN ?_ _ | refine blk_drew ?_ | refine blk_alloc ?_ _)); exact BK584.out) hb); have n2_ := Aside0.mk (blk_below (g := gb588) (o := .cells #[.int .i64 t585, .int .i64 t586] 23 (0, 0)) (by (with_reducible repeat (first | refine blk_drewN ?_ _ | refine blk_drew ?_ | refine blk_alloc ?_ _)); refine blk_put (cs := #[.int .i64 t585, .int .i64 0]) ?_ 1 _ rfl; (with_reducible repeat (first | refine blk_drewN ?_ _ | refine blk_drew ?_ | refine blk_alloc ?_ _)); refine blk_put (cs := #[.int .i64 0, .int .i64 0]) ?_ 0 _ rfl; (with_reducible repeat (first | refine blk_drewN ?_ _ | refine blk_drew ?_ | refine blk_alloc ?_ _)); exact BK588.out) hb); have n3_ := Aside0.mk (below_step (by repeat (first | (with_reducible first | exact HB.out | apply below_alloc | apply pw_below_drewN | apply below_drew1 | refine below_set ?_ GE583.out | refine below_set ?_ GE584.out | refine below_set ?_ GE588.out) | exact HB.out)) hb); clear BK583; clear BK584; clear BK588; clear HB; have BK583 := n0_; have BK584 := n1_; have BK588 := n2_; have HB := n3_; clear n0_ n1_ n2_ n3_; (try clear hb); (try clear hb2); (try clear hk); (try clear hi); have hcz22_0 : w21.cell? ⟨gb588, 0, none⟩ = some (.int .i64 t585) := (blk_cell BK588.out 0).trans rfl; have hcz22_1 : w21.cell? ⟨gb588, 1, none⟩ = some (.int .i64 t586) := (blk_cell BK588.out 1).trans rfl; have hfz22_0 := blk_frozen BK588.out 0; have hfz22_1 := blk_frozen BK588.out 1; have hcz23_0 : w21.cell? ⟨gb584, 0, none⟩ = some (.int .i64 a1_0) := (blk_cell BK584.out 0).trans rfl; have hcz23_1 : w21.cell? ⟨gb584, 1, none⟩ = some (.int .i64 a1_1) := (blk_cell BK584.out 1).trans rfl; have hfz23_0 := blk_frozen BK584.out 0; have hfz23_1 := blk_frozen BK584.out 1) | ((with_reducible refine gate_callee (f := 32) rfl ?_); refine goesL_ (some 38) rfl rfl Tryd.func32 (by kernel_rfl) rfl #[.agg #[.int .i64 t585, .int .i64 t586], .agg #[.int .i64 a1_0, .int .i64 a1_1]] rfl (by (try simp only [List.map_toArray, List.map_cons, List.map_nil]); first | done | rfl | (simp only [List.length_drop, List.length_take]; rfl)) ?_; (with_reducible refine (num_Cmp.calls k t585 t586 a1_0 a1_1 t592 t593 _ A8.out).mono ?_); rintro e w24 ⟨rfl, hb⟩; refine ⟨_, rfl, ?_⟩; have n0_ := Aside0.mk (blk_below (g := gb583) (o := .cells #[.int .i64 a0_0, .int .i64 a0_1] 23 (0, 0)) (by (with_reducible repeat (first | refine blk_drewN ?_ _ | refine blk_drew ?_ | refine blk_alloc ?_ _)); exact BK583.out) hb); have n1_ := Aside0.mk (blk_below (g := gb584) (o := .cells #[.int .i64 a1_0, .int .i64 a1_1] 23 (0, 0)) (by (with_reducible repeat (first | refine blk_drewN ?_ _ | refine blk_drew ?_ | refine blk_alloc ?_ _)); exact BK584.out) hb); have n2_ := Aside0.mk (blk_below (g := gb588) (o := .cells #[.int .i64 t585, .int .i64 t586] 23 (0, 0)) (by (with_reducible repeat (first | refine blk_drewN ?_ _ | refine blk_drew ?_ | refine blk_alloc ?_ _)); exact BK588.out) hb); have n3_ := Aside0.mk (below_step (by repeat (first | (with_reducible first | exact HB.out | apply below_alloc | apply pw_below_drewN | apply below_drew1 | refine below_set ?_ GE583.out | refine below_set ?_ GE584.out | refine below_set ?_ GE588.out) | exact HB.out)) hb); clear BK583; clear BK584; clear BK588; clear HB; have BK583 := n0_; have BK584 := n1_; have BK588 := n2_; have HB := n3_; clear n0_ n1_ n2_ n3_; (try clear hb); (try clear hb2); (try clear hk); (try clear hi)))
    (try simp only [Act.put, List.setIfInBounds_toArray, List.set_cons_zero, List.set_cons_succ])
    go_cut [59] (fun v59 wc => ∃ (kq : Nat) (x59_8 : Bool), v59 = .bool x59_8 ∧ Aside0 (merinolaw01_NumSimplest.j0 kq a2 a3 x59_8 a0_0 a0_1 a1_0 a1_1 t585 t586 = some r) ∧ Aside0 (kq ≤ k) ∧ Aside0 (wc.heap[gb583]? = some (.cells #[.int .i64 a0_0, .int .i64 a0_1] 23 (0, 0))) ∧ Aside0 (wc.heap[gb584]? = some (.cells #[.int .i64 a1_0, .int .i64 a1_1] 23 (0, 0))) ∧ Aside0 (wc.heap[gb588]? = some (.cells #[.int .i64 t585, .int .i64 t586] 23 (0, 0))) ∧ Aside0 (Below w.heap.size w wc))
    case first =>
      have H := HC9.out
      clear HC9
      replace H := Option.bind_eq_some_iff.mp H
      obtain ⟨t594, A250, H⟩ := H
      replace H : (if t594 = true then (if t591 = 0 then (if t593 = 0 then (if t590 = (-1) then (merinolaw01_NumSimplest.j0 k a2 a3 (t592 != (-1)) a0_0 a0_1 a1_0 a1_1 t585 t586) else (merinolaw01_NumSimplest.j0 k a2 a3 true a0_0 a0_1 a1_0 a1_1 t585 t586)) else (merinolaw01_NumSimplest.j0 k a2 a3 true a0_0 a0_1 a1_0 a1_1 t585 t586)) else (merinolaw01_NumSimplest.j0 k a2 a3 true a0_0 a0_1 a1_0 a1_1 t585 t586)) else (merinolaw01_NumSimplest.j0 k a2 a3 true a0_0 a0_1 a1_0 a1_1 t585 t586)) = some r := H
      have A25 := Aside0.mk A250
      clear A250
      by_cases c26 : t594 = true
      · subst c26
        have H1 : (if t591 = 0 then (if t593 = 0 then (if t590 = (-1) then (merinolaw01_NumSimplest.j0 k a2 a3 (t592 != (-1)) a0_0 a0_1 a1_0 a1_1 t585 t586) else (merinolaw01_NumSimplest.j0 k a2 a3 true a0_0 a0_1 a1_0 a1_1 t585 t586)) else (merinolaw01_NumSimplest.j0 k a2 a3 true a0_0 a0_1 a1_0 a1_1 t585 t586)) else (merinolaw01_NumSimplest.j0 k a2 a3 true a0_0 a0_1 a1_0 a1_1 t585 t586)) = some r := by rw [if_pos rfl] at H; exact H
        clear H
        have H := H1
        clear H1
        by_cases c27 : t591 = 0
        · rw [if_pos c27] at H
          have c27b0 : (t591 == 0) = true := beq_iff_eq.mpr c27
          have c27b1 : (t591 != 0) = false := bne_eq_false_iff_eq.mpr c27
          clear c27
          (first | rw [c27b0] | (simp only [i64_w, i32_w]; rw [c27b0]) | skip)
          by_cases c28 : t593 = 0
          · rw [if_pos c28] at H
            have c28b0 : (t593 == 0) = true := beq_iff_eq.mpr c28
            have c28b1 : (t593 != 0) = false := bne_eq_false_iff_eq.mpr c28
            clear c28
            by_cases c29 : t590 = (-1)
            · rw [if_pos c29] at H
              have c29b0 : (t590 == (-1)) = true := beq_iff_eq.mpr c29
              have c29b1 : (t590 != (-1)) = false := bne_eq_false_iff_eq.mpr c29
              clear c29
              have H' := Aside0.mk H
              clear H
              have hnb30 := NB588_583.out
              have hnc30 := NB583_588.out
              have hnb31 := NB588_584.out
              have hnc31 := NB584_588.out
              have hcz32_0 : w24.cell? ⟨gb588, 0, none⟩ = some (.int .i64 t585) := (blk_cell BK588.out 0).trans rfl
              have hcz32_1 : w24.cell? ⟨gb588, 1, none⟩ = some (.int .i64 t586) := (blk_cell BK588.out 1).trans rfl
              have hfz32_0 := blk_frozen BK588.out 0
              have hfz32_1 := blk_frozen BK588.out 1
              go_wp2_with (first | ((with_reducible refine gate_callee (f := 26) rfl ?_); refine goesL_ (some 42) rfl rfl Tryd.func26 (by kernel_rfl) rfl #[.agg #[.int .i64 t585, .int .i64 t586]] rfl (by (try simp only [List.map_toArray, List.map_cons, List.map_nil]); first | done | rfl | (simp only [List.length_drop, List.length_take]; rfl)) ?_; (with_reducible refine (num_Valid.calls k t585 t586 true _ A25.out).mono ?_); rintro e w33 ⟨rfl, hb⟩; refine ⟨_, rfl, ?_⟩; have n0_ := Aside0.mk (blk_below (g := gb583) (o := .cells #[.int .i64 a0_0, .int .i64 a0_1] 23 (0, 0)) (by (with_reducible repeat (first | refine blk_drewN ?_ _ | refine blk_drew ?_ | refine blk_alloc ?_ _)); exact BK583.out) hb); have n1_ := Aside0.mk (blk_below (g := gb584) (o := .cells #[.int .i64 a1_0, .int .i64 a1_1] 23 (0, 0)) (by (with_reducible repeat (first | refine blk_drewN ?_ _ | refine blk_drew ?_ | refine blk_alloc ?_ _)); exact BK584.out) hb); have n2_ := Aside0.mk (blk_below (g := gb588) (o := .cells #[.int .i64 t585, .int .i64 t586] 23 (0, 0)) (by (with_reducible repeat (first | refine blk_drewN ?_ _ | refine blk_drew ?_ | refine blk_alloc ?_ _)); exact BK588.out) hb); have n3_ := Aside0.mk (below_step (by repeat (first | (with_reducible first | exact HB.out | apply below_alloc | apply pw_below_drewN | apply below_drew1 | refine below_set ?_ GE583.out | refine below_set ?_ GE584.out | refine below_set ?_ GE588.out) | exact HB.out)) hb); clear BK583; clear BK584; clear BK588; clear HB; have BK583 := n0_; have BK584 := n1_; have BK588 := n2_; have HB := n3_; clear n0_ n1_ n2_ n3_; (try clear hb); (try clear hb2); (try clear hk); (try clear hi)))
              go_meet
              case rel => exact ⟨_, ((t592 != (-1))), (by first | rfl | (simp; done) | (simp [*]; done)), H', ⟨by first | omega | exact Nat.le_refl _⟩, ⟨by (with_reducible repeat (first | refine blk_drewN ?_ _ | refine blk_drew ?_ | refine blk_alloc ?_ _)); exact BK583.out⟩, ⟨by (with_reducible repeat (first | refine blk_drewN ?_ _ | refine blk_drew ?_ | refine blk_alloc ?_ _)); exact BK584.out⟩, ⟨by (with_reducible repeat (first | refine blk_drewN ?_ _ | refine blk_drew ?_ | refine blk_alloc ?_ _)); exact BK588.out⟩, ⟨by repeat (first | (with_reducible first | exact HB.out | apply below_alloc | apply pw_below_drewN | apply below_drew1 | refine below_set ?_ GE583.out | refine below_set ?_ GE584.out | refine below_set ?_ GE588.out) | exact HB.out)⟩⟩
            · rw [if_neg c29] at H
              have c29b0 : (t590 == (-1)) = false := beq_eq_false_iff_ne.mpr c29
              have c29b1 : (t590 != (-1)) = true := bne_iff_ne.mpr c29
              have H' := Aside0.mk H
              clear H
              have hnb34 := NB588_583.out
              have hnc34 := NB583_588.out
              have hnb35 := NB588_584.out
              have hnc35 := NB584_588.out
              have hcz36_0 : w24.cell? ⟨gb588, 0, none⟩ = some (.int .i64 t585) := (blk_cell BK588.out 0).trans rfl
              have hcz36_1 : w24.cell? ⟨gb588, 1, none⟩ = some (.int .i64 t586) := (blk_cell BK588.out 1).trans rfl
              have hfz36_0 := blk_frozen BK588.out 0
              have hfz36_1 := blk_frozen BK588.out 1
              go_wp2_with (first | ((with_reducible refine gate_callee (f := 26) rfl ?_); refine goesL_ (some 42) rfl rfl Tryd.func26 (by kernel_rfl) rfl #[.agg #[.int .i64 t585, .int .i64 t586]] rfl (by (try simp only [List.map_toArray, List.map_cons, List.map_nil]); first | done | rfl | (simp only [List.length_drop, List.length_take]; rfl)) ?_; (with_reducible refine (num_Valid.calls k t585 t586 true _ A25.out).mono ?_); rintro e w37 ⟨rfl, hb⟩; refine ⟨_, rfl, ?_⟩; have n0_ := Aside0.mk (blk_below (g := gb583) (o := .cells #[.int .i64 a0_0, .int .i64 a0_1] 23 (0, 0)) (by (with_reducible repeat (first | refine blk_drewN ?_ _ | refine blk_drew ?_ | refine blk_alloc ?_ _)); exact BK583.out) hb); have n1_ := Aside0.mk (blk_below (g := gb584) (o := .cells #[.int .i64 a1_0, .int .i64 a1_1] 23 (0, 0)) (by (with_reducible repeat (first | refine blk_drewN ?_ _ | refine blk_drew ?_ | refine blk_alloc ?_ _)); exact BK584.out) hb); have n2_ := Aside0.mk (blk_below (g := gb588) (o := .cells #[.int .i64 t585, .int .i64 t586] 23 (0, 0)) (by (with_reducible repeat (first | refine blk_drewN ?_ _ | refine blk_drew ?_ | refine blk_alloc ?_ _)); exact BK588.out) hb); have n3_ := Aside0.mk (below_step (by repeat (first | (with_reducible first | exact HB.out | apply below_alloc | apply pw_below_drewN | apply below_drew1 | refine below_set ?_ GE583.out | refine below_set ?_ GE584.out | refine below_set ?_ GE588.out) | exact HB.out)) hb); clear BK583; clear BK584; clear BK588; clear HB; have BK583 := n0_; have BK584 := n1_; have BK588 := n2_; have HB := n3_; clear n0_ n1_ n2_ n3_; (try clear hb); (try clear hb2); (try clear hk); (try clear hi)))
              go_meet
              case rel => exact ⟨_, (true), (by first | rfl | (simp; done) | (simp [*]; done)), H', ⟨by first | omega | exact Nat.le_refl _⟩, ⟨by (with_reducible repeat (first | refine blk_drewN ?_ _ | refine blk_drew ?_ | refine blk_alloc ?_ _)); exact BK583.out⟩, ⟨by (with_reducible repeat (first | refine blk_drewN ?_ _ | refine blk_drew ?_ | refine blk_alloc ?_ _)); exact BK584.out⟩, ⟨by (with_reducible repeat (first | refine blk_drewN ?_ _ | refine blk_drew ?_ | refine blk_alloc ?_ _)); exact BK588.out⟩, ⟨by repeat (first | (with_reducible first | exact HB.out | apply below_alloc | apply pw_below_drewN | apply below_drew1 | refine below_set ?_ GE583.out | refine below_set ?_ GE584.out | refine below_set ?_ GE588.out) | exact HB.out)⟩⟩
          · rw [if_neg c28] at H
            have c28b0 : (t593 == 0) = false := beq_eq_false_iff_ne.mpr c28
            have c28b1 : (t593 != 0) = true := bne_iff_ne.mpr c28
            have H' := Aside0.mk H
            clear H
            have hnb38 := NB588_583.out
            have hnc38 := NB583_588.out
            have hnb39 := NB588_584.out
            have hnc39 := NB584_588.out
            have hcz40_0 : w24.cell? ⟨gb588, 0, none⟩ = some (.int .i64 t585) := (blk_cell BK588.out 0).trans rfl
            have hcz40_1 : w24.cell? ⟨gb588, 1, none⟩ = some (.int .i64 t586) := (blk_cell BK588.out 1).trans rfl
            have hfz40_0 := blk_frozen BK588.out 0
            have hfz40_1 := blk_frozen BK588.out 1
            go_wp2_with (first | ((with_reducible refine gate_callee (f := 26) rfl ?_); refine goesL_ (some 42) rfl rfl Tryd.func26 (by kernel_rfl) rfl #[.agg #[.int .i64 t585, .int .i64 t586]] rfl (by (try simp only [List.map_toArray, List.map_cons, List.map_nil]); first | done | rfl | (simp only [List.length_drop, List.length_take]; rfl)) ?_; (with_reducible refine (num_Valid.calls k t585 t586 true _ A25.out).mono ?_); rintro e w41 ⟨rfl, hb⟩; refine ⟨_, rfl, ?_⟩; have n0_ := Aside0.mk (blk_below (g := gb583) (o := .cells #[.int .i64 a0_0, .int .i64 a0_1] 23 (0, 0)) (by (with_reducible repeat (first | refine blk_drewN ?_ _ | refine blk_drew ?_ | refine blk_alloc ?_ _)); exact BK583.out) hb); have n1_ := Aside0.mk (blk_below (g := gb584) (o := .cells #[.int .i64 a1_0, .int .i64 a1_1] 23 (0, 0)) (by (with_reducible repeat (first | refine blk_drewN ?_ _ | refine blk_drew ?_ | refine blk_alloc ?_ _)); exact BK584.out) hb); have n2_ := Aside0.mk (blk_below (g := gb588) (o := .cells #[.int .i64 t585, .int .i64 t586] 23 (0, 0)) (by (with_reducible repeat (first | refine blk_drewN ?_ _ | refine blk_drew ?_ | refine blk_alloc ?_ _)); exact BK588.out) hb); have n3_ := Aside0.mk (below_step (by repeat (first | (with_reducible first | exact HB.out | apply below_alloc | apply pw_below_drewN | apply below_drew1 | refine below_set ?_ GE583.out | refine below_set ?_ GE584.out | refine below_set ?_ GE588.out) | exact HB.out)) hb); clear BK583; clear BK584; clear BK588; clear HB; have BK583 := n0_; have BK584 := n1_; have BK588 := n2_; have HB := n3_; clear n0_ n1_ n2_ n3_; (try clear hb); (try clear hb2); (try clear hk); (try clear hi)))
            go_meet
            case rel => exact ⟨_, (true), (by first | rfl | (simp; done) | (simp [*]; done)), H', ⟨by first | omega | exact Nat.le_refl _⟩, ⟨by (with_reducible repeat (first | refine blk_drewN ?_ _ | refine blk_drew ?_ | refine blk_alloc ?_ _)); exact BK583.out⟩, ⟨by (with_reducible repeat (first | refine blk_drewN ?_ _ | refine blk_drew ?_ | refine blk_alloc ?_ _)); exact BK584.out⟩, ⟨by (with_reducible repeat (first | refine blk_drewN ?_ _ | refine blk_drew ?_ | refine blk_alloc ?_ _)); exact BK588.out⟩, ⟨by repeat (first | (with_reducible first | exact HB.out | apply below_alloc | apply pw_below_drewN | apply below_drew1 | refine below_set ?_ GE583.out | refine below_set ?_ GE584.out | refine below_set ?_ GE588.out) | exact HB.out)⟩⟩
        · rw [if_neg c27] at H
          have c27b0 : (t591 == 0) = false := beq_eq_false_iff_ne.mpr c27
          have c27b1 : (t591 != 0) = true := bne_iff_ne.mpr c27
          (first | rw [c27b0] | (simp only [i64_w, i32_w]; rw [c27b0]) | skip)
          have H' := Aside0.mk H
          clear H
          have hnb42 := NB588_583.out
          have hnc42 := NB583_588.out
          have hnb43 := NB588_584.out
          have hnc43 := NB584_588.out
          have hcz44_0 : w24.cell? ⟨gb588, 0, none⟩ = some (.int .i64 t585) := (blk_cell BK588.out 0).trans rfl
          have hcz44_1 : w24.cell? ⟨gb588, 1, none⟩ = some (.int .i64 t586) := (blk_cell BK588.out 1).trans rfl
          have hfz44_0 := blk_frozen BK588.out 0
          have hfz44_1 := blk_frozen BK588.out 1
          go_wp2_with (first | ((with_reducible refine gate_callee (f := 26) rfl ?_); refine goesL_ (some 42) rfl rfl Tryd.func26 (by kernel_rfl) rfl #[.agg #[.int .i64 t585, .int .i64 t586]] rfl (by (try simp only [List.map_toArray, List.map_cons, List.map_nil]); first | done | rfl | (simp only [List.length_drop, List.length_take]; rfl)) ?_; (with_reducible refine (num_Valid.calls k t585 t586 true _ A25.out).mono ?_); rintro e w45 ⟨rfl, hb⟩; refine ⟨_, rfl, ?_⟩; have n0_ := Aside0.mk (blk_below (g := gb583) (o := .cells #[.int .i64 a0_0, .int .i64 a0_1] 23 (0, 0)) (by (with_reducible repeat (first | refine blk_drewN ?_ _ | refine blk_drew ?_ | refine blk_alloc ?_ _)); exact BK583.out) hb); have n1_ := Aside0.mk (blk_below (g := gb584) (o := .cells #[.int .i64 a1_0, .int .i64 a1_1] 23 (0, 0)) (by (with_reducible repeat (first | refine blk_drewN ?_ _ | refine blk_drew ?_ | refine blk_alloc ?_ _)); exact BK584.out) hb); have n2_ := Aside0.mk (blk_below (g := gb588) (o := .cells #[.int .i64 t585, .int .i64 t586] 23 (0, 0)) (by (with_reducible repeat (first | refine blk_drewN ?_ _ | refine blk_drew ?_ | refine blk_alloc ?_ _)); exact BK588.out) hb); have n3_ := Aside0.mk (below_step (by repeat (first | (with_reducible first | exact HB.out | apply below_alloc | apply pw_below_drewN | apply below_drew1 | refine below_set ?_ GE583.out | refine below_set ?_ GE584.out | refine below_set ?_ GE588.out) | exact HB.out)) hb); clear BK583; clear BK584; clear BK588; clear HB; have BK583 := n0_; have BK584 := n1_; have BK588 := n2_; have HB := n3_; clear n0_ n1_ n2_ n3_; (try clear hb); (try clear hb2); (try clear hk); (try clear hi)))
          go_meet
          case rel => exact ⟨_, (true), (by first | rfl | (simp; done) | (simp [*]; done)), H', ⟨by first | omega | exact Nat.le_refl _⟩, ⟨by (with_reducible repeat (first | refine blk_drewN ?_ _ | refine blk_drew ?_ | refine blk_alloc ?_ _)); exact BK583.out⟩, ⟨by (with_reducible repeat (first | refine blk_drewN ?_ _ | refine blk_drew ?_ | refine blk_alloc ?_ _)); exact BK584.out⟩, ⟨by (with_reducible repeat (first | refine blk_drewN ?_ _ | refine blk_drew ?_ | refine blk_alloc ?_ _)); exact BK588.out⟩, ⟨by repeat (first | (with_reducible first | exact HB.out | apply below_alloc | apply pw_below_drewN | apply below_drew1 | refine below_set ?_ GE583.out | refine below_set ?_ GE584.out | refine below_set ?_ GE588.out) | exact HB.out)⟩⟩
      · replace c26 := Bool.eq_false_iff.mpr c26
        subst c26
        have H1 : (merinolaw01_NumSimplest.j0 k a2 a3 true a0_0 a0_1 a1_0 a1_1 t585 t586) = some r := by rw [if_neg (show ¬ (false = true) by decide)] at H; exact H
        clear H
        have H := H1
        clear H1
        have H' := Aside0.mk H
        clear H
        have hnb46 := NB588_583.out
        have hnc46 := NB583_588.out
        have hnb47 := NB588_584.out
        have hnc47 := NB584_588.out
        have hcz48_0 : w24.cell? ⟨gb588, 0, none⟩ = some (.int .i64 t585) := (blk_cell BK588.out 0).trans rfl
        have hcz48_1 : w24.cell? ⟨gb588, 1, none⟩ = some (.int .i64 t586) := (blk_cell BK588.out 1).trans rfl
        have hfz48_0 := blk_frozen BK588.out 0
        have hfz48_1 := blk_frozen BK588.out 1
        go_wp2_with (first | ((with_reducible refine gate_callee (f := 26) rfl ?_); refine goesL_ (some 42) rfl rfl Tryd.func26 (by kernel_rfl) rfl #[.agg #[.int .i64 t585, .int .i64 t586]] rfl (by (try simp only [List.map_toArray, List.map_cons, List.map_nil]); first | done | rfl | (simp only [List.length_drop, List.length_take]; rfl)) ?_; (with_reducible refine (num_Valid.calls k t585 t586 false _ A25.out).mono ?_); rintro e w49 ⟨rfl, hb⟩; refine ⟨_, rfl, ?_⟩; have n0_ := Aside0.mk (blk_below (g := gb583) (o := .cells #[.int .i64 a0_0, .int .i64 a0_1] 23 (0, 0)) (by (with_reducible repeat (first | refine blk_drewN ?_ _ | refine blk_drew ?_ | refine blk_alloc ?_ _)); exact BK583.out) hb); have n1_ := Aside0.mk (blk_below (g := gb584) (o := .cells #[.int .i64 a1_0, .int .i64 a1_1] 23 (0, 0)) (by (with_reducible repeat (first | refine blk_drewN ?_ _ | refine blk_drew ?_ | refine blk_alloc ?_ _)); exact BK584.out) hb); have n2_ := Aside0.mk (blk_below (g := gb588) (o := .cells #[.int .i64 t585, .int .i64 t586] 23 (0, 0)) (by (with_reducible repeat (first | refine blk_drewN ?_ _ | refine blk_drew ?_ | refine blk_alloc ?_ _)); exact BK588.out) hb); have n3_ := Aside0.mk (below_step (by repeat (first | (with_reducible first | exact HB.out | apply below_alloc | apply pw_below_drewN | apply below_drew1 | refine below_set ?_ GE583.out | refine below_set ?_ GE584.out | refine below_set ?_ GE588.out) | exact HB.out)) hb); clear BK583; clear BK584; clear BK588; clear HB; have BK583 := n0_; have BK584 := n1_; have BK588 := n2_; have HB := n3_; clear n0_ n1_ n2_ n3_; (try clear hb); (try clear hb2); (try clear hk); (try clear hi)))
        go_meet
        case rel => exact ⟨_, (true), (by first | rfl | (simp; done) | (simp [*]; done)), H', ⟨by first | omega | exact Nat.le_refl _⟩, ⟨by (with_reducible repeat (first | refine blk_drewN ?_ _ | refine blk_drew ?_ | refine blk_alloc ?_ _)); exact BK583.out⟩, ⟨by (with_reducible repeat (first | refine blk_drewN ?_ _ | refine blk_drew ?_ | refine blk_alloc ?_ _)); exact BK584.out⟩, ⟨by (with_reducible repeat (first | refine blk_drewN ?_ _ | refine blk_drew ?_ | refine blk_alloc ?_ _)); exact BK588.out⟩, ⟨by repeat (first | (with_reducible first | exact HB.out | apply below_alloc | apply pw_below_drewN | apply below_drew1 | refine below_set ?_ GE583.out | refine below_set ?_ GE584.out | refine below_set ?_ GE588.out) | exact HB.out)⟩⟩
    case rest =>
      clear HC9
      try clear c1
      try clear c2
      try clear p2
      try clear c3
      try clear c4
      try clear c6
      try clear c6b0
      try clear c6b1
      try clear c7
      try clear c12
      try clear c17
      try clear c18
      try clear c26
      try clear c27
      try clear c27b0
      try clear c27b1
      try clear c28
      try clear c28b0
      try clear c28b1
      try clear c29
      try clear c29b0
      try clear c29b1
      try clear c30
      try clear c31
      try clear c32
      try clear c34
      try clear c35
      try clear c38
      try clear c39
      try clear c42
      try clear c43
      try clear c46
      try clear c47
      try clear hcz13_0
      try clear hcz13_1
      try clear hcz14_0
      try clear hcz14_1
      try clear hcz19_0
      try clear hcz19_1
      try clear hcz20_0
      try clear hcz20_1
      try clear hcz22_0
      try clear hcz22_1
      try clear hcz23_0
      try clear hcz23_1
      try clear hcz32_0
      try clear hcz32_1
      try clear hcz36_0
      try clear hcz36_1
      try clear hcz40_0
      try clear hcz40_1
      try clear hcz44_0
      try clear hcz44_1
      try clear hcz48_0
      try clear hcz48_1
      try clear hfz13_0
      try clear hfz13_1
      try clear hfz14_0
      try clear hfz14_1
      try clear hfz19_0
      try clear hfz19_1
      try clear hfz20_0
      try clear hfz20_1
      try clear hfz22_0
      try clear hfz22_1
      try clear hfz23_0
      try clear hfz23_1
      try clear hfz32_0
      try clear hfz32_1
      try clear hfz36_0
      try clear hfz36_1
      try clear hfz40_0
      try clear hfz40_1
      try clear hfz44_0
      try clear hfz44_1
      try clear hfz48_0
      try clear hfz48_1
      obtain ⟨kq, x59_8, rfl, HA, HJ8, BK583, BK584, BK588, HB⟩ := hcut
      cases kq with
      | zero => exact absurd HA.out (by simp [merinolaw01_NumSimplest.j0])
      | succ kj8 =>
        have H := HA.out
        clear HA
        simp only [merinolaw01_NumSimplest.j0] at H
        by_cases c50 : x59_8 = true
        · subst c50
          have H1 : (some false) = some r := by rw [if_pos rfl] at H; exact H
          clear H
          have H := H1
          clear H1
          obtain rfl := Option.some.inj H
          go_wp2
          go_ret
          exact ⟨by first | rfl | (simp [errW_none, errW_some] <;> rfl) | (simp [*, errW_none, errW_some] <;> rfl), by repeat (first | (with_reducible first | exact HB.out | apply below_alloc | apply pw_below_drewN | apply below_drew1 | refine below_set ?_ GE583.out | refine below_set ?_ GE584.out | refine below_set ?_ GE588.out) | exact HB.out)⟩
        · replace c50 := Bool.eq_false_iff.mpr c50
          subst c50
          have H1 : (if a3 < 1 then (merinolaw01_NumSimplest.j1 kj8 a2 a3 true t585 t586) else ((merinolaw01_before.f kj8 a0_0 a0_1 a2 a3).bind fun t595 => (if t595 = true then ((merinolaw01_before.f kj8 a2 a3 a1_0 a1_1).bind fun t596 => (merinolaw01_NumSimplest.j1 kj8 a2 a3 (!t596) t585 t586)) else (merinolaw01_NumSimplest.j1 kj8 a2 a3 true t585 t586)))) = some r := by rw [if_neg (show ¬ (false = true) by decide)] at H; exact H
          clear H
          have H := H1
          clear H1
          have HC51 := Aside0.mk H
          clear H
          go_upto_region 8 with (fail)
          go_cut [81] (fun v81 wc => ∃ (kq : Nat) (x81_50 : Bool), v81 = .bool x81_50 ∧ Aside0 (merinolaw01_NumSimplest.j1 kq a2 a3 x81_50 t585 t586 = some r) ∧ Aside0 (kq ≤ kj8) ∧ Aside0 (wc.heap[gb583]? = some (.cells #[.int .i64 a0_0, .int .i64 a0_1] 23 (0, 0))) ∧ Aside0 (wc.heap[gb584]? = some (.cells #[.int .i64 a1_0, .int .i64 a1_1] 23 (0, 0))) ∧ Aside0 (wc.heap[gb588]? = some (.cells #[.int .i64 t585, .int .i64 t586] 23 (0, 0))) ∧ Aside0 (Below w.heap.size w wc))
          case first =>
            have H := HC51.out
            clear HC51
            by_cases c52 : a3 < 1
            · rw [if_pos c52] at H
              have c52b0 : decide (a3 < 1) = true := decide_eq_true c52
              clear c52
              (first | rw [c52b0] | (simp only [i64_w, i32_w]; rw [c52b0]) | skip)
              have H' := Aside0.mk H
              clear H
              go_wp2
              go_meet
              case rel => exact ⟨_, (true), (by first | rfl | (simp; done) | (simp [*]; done)), H', ⟨by have := HJ8.out; first | omega | exact Nat.le_refl _⟩, ⟨by (with_reducible repeat (first | refine blk_drewN ?_ _ | refine blk_drew ?_ | refine blk_alloc ?_ _)); exact BK583.out⟩, ⟨by (with_reducible repeat (first | refine blk_drewN ?_ _ | refine blk_drew ?_ | refine blk_alloc ?_ _)); exact BK584.out⟩, ⟨by (with_reducible repeat (first | refine blk_drewN ?_ _ | refine blk_drew ?_ | refine blk_alloc ?_ _)); exact BK588.out⟩, ⟨by repeat (first | (with_reducible first | exact HB.out | apply below_alloc | apply pw_below_drewN | apply below_drew1 | refine below_set ?_ GE583.out | refine below_set ?_ GE584.out | refine below_set ?_ GE588.out) | exact HB.out)⟩⟩
            · rw [if_neg c52] at H
              have c52b0 : decide (a3 < 1) = false := decide_eq_false c52
              clear c52
              (first | rw [c52b0] | (simp only [i64_w, i32_w]; rw [c52b0]) | skip)
              replace H := Option.bind_eq_some_iff.mp H
              obtain ⟨t595, A530, H⟩ := H
              replace H : (if t595 = true then ((merinolaw01_before.f kj8 a2 a3 a1_0 a1_1).bind fun t596 => (merinolaw01_NumSimplest.j1 kj8 a2 a3 (!t596) t585 t586)) else (merinolaw01_NumSimplest.j1 kj8 a2 a3 true t585 t586)) = some r := H
              have A53 := Aside0.mk A530
              clear A530
              by_cases c54 : t595 = true
              · subst c54
                have H1 : ((merinolaw01_before.f kj8 a2 a3 a1_0 a1_1).bind fun t596 => (merinolaw01_NumSimplest.j1 kj8 a2 a3 (!t596) t585 t586)) = some r := by rw [if_pos rfl] at H; exact H
                clear H
                have H := H1
                clear H1
                replace H := Option.bind_eq_some_iff.mp H
                obtain ⟨t596, A550, H⟩ := H
                replace H : (merinolaw01_NumSimplest.j1 kj8 a2 a3 (!t596) t585 t586) = some r := H
                have A55 := Aside0.mk A550
                clear A550
                have H' := Aside0.mk H
                clear H
                have hnb56 := NB583_584.out
                have hnc56 := NB584_583.out
                have hnb57 := NB583_588.out
                have hnc57 := NB588_583.out
                have hcz58_0 : wc.cell? ⟨gb583, 0, none⟩ = some (.int .i64 a0_0) := (blk_cell BK583.out 0).trans rfl
                have hcz58_1 : wc.cell? ⟨gb583, 1, none⟩ = some (.int .i64 a0_1) := (blk_cell BK583.out 1).trans rfl
                have hfz58_0 := blk_frozen BK583.out 0
                have hfz58_1 := blk_frozen BK583.out 1
                go_wp2_with (first | (go_at_call 33; (with_reducible refine (merinolaw01_before.calls kj8 a0_0 a0_1 a2 a3 true _ A53.out).mono ?_); rintro e w59 ⟨rfl, hb⟩; have n0_ := Aside0.mk (blk_below (g := gb583) (o := .cells #[.int .i64 a0_0, .int .i64 a0_1] 23 (0, 0)) (by (with_reducible repeat (first | refine blk_drewN ?_ _ | refine blk_drew ?_ | refine blk_alloc ?_ _)); exact BK583.out) hb); have n1_ := Aside0.mk (blk_below (g := gb584) (o := .cells #[.int .i64 a1_0, .int .i64 a1_1] 23 (0, 0)) (by (with_reducible repeat (first | refine blk_drewN ?_ _ | refine blk_drew ?_ | refine blk_alloc ?_ _)); exact BK584.out) hb); have n2_ := Aside0.mk (blk_below (g := gb588) (o := .cells #[.int .i64 t585, .int .i64 t586] 23 (0, 0)) (by (with_reducible repeat (first | refine blk_drewN ?_ _ | refine blk_drew ?_ | refine blk_alloc ?_ _)); exact BK588.out) hb); have n3_ := Aside0.mk (below_step (by repeat (first | (with_reducible first | exact HB.out | apply below_alloc | apply pw_below_drewN | apply below_drew1 | refine below_set ?_ GE583.out | refine below_set ?_ GE584.out | refine below_set ?_ GE588.out) | exact HB.out)) hb); clear BK583; clear BK584; clear BK588; clear HB; have BK583 := n0_; have BK584 := n1_; have BK588 := n2_; have HB := n3_; clear n0_ n1_ n2_ n3_; (try clear hb); (try clear hb2); (try clear hk); (try clear hi); have hnb60 := NB584_588.out; have hnc60 := NB588_584.out; have hcz61_0 : w59.cell? ⟨gb584, 0, none⟩ = some (.int .i64 a1_0) := (blk_cell BK584.out 0).trans rfl; have hcz61_1 : w59.cell? ⟨gb584, 1, none⟩ = some (.int .i64 a1_1) := (blk_cell BK584.out 1).trans rfl; have hfz61_0 := blk_frozen BK584.out 0; have hfz61_1 := blk_frozen BK584.out 1) | (go_at_call 33; (with_reducible refine (merinolaw01_before.calls kj8 a2 a3 a1_0 a1_1 t596 _ A55.out).mono ?_); rintro e w62 ⟨rfl, hb⟩; have n0_ := Aside0.mk (blk_below (g := gb583) (o := .cells #[.int .i64 a0_0, .int .i64 a0_1] 23 (0, 0)) (by (with_reducible repeat (first | refine blk_drewN ?_ _ | refine blk_drew ?_ | refine blk_alloc ?_ _)); exact BK583.out) hb); have n1_ := Aside0.mk (blk_below (g := gb584) (o := .cells #[.int .i64 a1_0, .int .i64 a1_1] 23 (0, 0)) (by (with_reducible repeat (first | refine blk_drewN ?_ _ | refine blk_drew ?_ | refine blk_alloc ?_ _)); exact BK584.out) hb); have n2_ := Aside0.mk (blk_below (g := gb588) (o := .cells #[.int .i64 t585, .int .i64 t586] 23 (0, 0)) (by (with_reducible repeat (first | refine blk_drewN ?_ _ | refine blk_drew ?_ | refine blk_alloc ?_ _)); exact BK588.out) hb); have n3_ := Aside0.mk (below_step (by repeat (first | (with_reducible first | exact HB.out | apply below_alloc | apply pw_below_drewN | apply below_drew1 | refine below_set ?_ GE583.out | refine below_set ?_ GE584.out | refine below_set ?_ GE588.out) | exact HB.out)) hb); clear BK583; clear BK584; clear BK588; clear HB; have BK583 := n0_; have BK584 := n1_; have BK588 := n2_; have HB := n3_; clear n0_ n1_ n2_ n3_; (try clear hb); (try clear hb2); (try clear hk); (try clear hi)))
                go_meet
                case rel => exact ⟨_, (!t596), (by first | rfl | (simp; done) | (simp [*]; done)), H', ⟨by have := HJ8.out; first | omega | exact Nat.le_refl _⟩, ⟨by (with_reducible repeat (first | refine blk_drewN ?_ _ | refine blk_drew ?_ | refine blk_alloc ?_ _)); exact BK583.out⟩, ⟨by (with_reducible repeat (first | refine blk_drewN ?_ _ | refine blk_drew ?_ | refine blk_alloc ?_ _)); exact BK584.out⟩, ⟨by (with_reducible repeat (first | refine blk_drewN ?_ _ | refine blk_drew ?_ | refine blk_alloc ?_ _)); exact BK588.out⟩, ⟨by repeat (first | (with_reducible first | exact HB.out | apply below_alloc | apply pw_below_drewN | apply below_drew1 | refine below_set ?_ GE583.out | refine below_set ?_ GE584.out | refine below_set ?_ GE588.out) | exact HB.out)⟩⟩
              · replace c54 := Bool.eq_false_iff.mpr c54
                subst c54
                have H1 : (merinolaw01_NumSimplest.j1 kj8 a2 a3 true t585 t586) = some r := by rw [if_neg (show ¬ (false = true) by decide)] at H; exact H
                clear H
                have H := H1
                clear H1
                have H' := Aside0.mk H
                clear H
                have hnb63 := NB583_584.out
                have hnc63 := NB584_583.out
                have hnb64 := NB583_588.out
                have hnc64 := NB588_583.out
                have hcz65_0 : wc.cell? ⟨gb583, 0, none⟩ = some (.int .i64 a0_0) := (blk_cell BK583.out 0).trans rfl
                have hcz65_1 : wc.cell? ⟨gb583, 1, none⟩ = some (.int .i64 a0_1) := (blk_cell BK583.out 1).trans rfl
                have hfz65_0 := blk_frozen BK583.out 0
                have hfz65_1 := blk_frozen BK583.out 1
                go_wp2_with (first | (go_at_call 33; (with_reducible refine (merinolaw01_before.calls kj8 a0_0 a0_1 a2 a3 false _ A53.out).mono ?_); rintro e w66 ⟨rfl, hb⟩; have n0_ := Aside0.mk (blk_below (g := gb583) (o := .cells #[.int .i64 a0_0, .int .i64 a0_1] 23 (0, 0)) (by (with_reducible repeat (first | refine blk_drewN ?_ _ | refine blk_drew ?_ | refine blk_alloc ?_ _)); exact BK583.out) hb); have n1_ := Aside0.mk (blk_below (g := gb584) (o := .cells #[.int .i64 a1_0, .int .i64 a1_1] 23 (0, 0)) (by (with_reducible repeat (first | refine blk_drewN ?_ _ | refine blk_drew ?_ | refine blk_alloc ?_ _)); exact BK584.out) hb); have n2_ := Aside0.mk (blk_below (g := gb588) (o := .cells #[.int .i64 t585, .int .i64 t586] 23 (0, 0)) (by (with_reducible repeat (first | refine blk_drewN ?_ _ | refine blk_drew ?_ | refine blk_alloc ?_ _)); exact BK588.out) hb); have n3_ := Aside0.mk (below_step (by repeat (first | (with_reducible first | exact HB.out | apply below_alloc | apply pw_below_drewN | apply below_drew1 | refine below_set ?_ GE583.out | refine below_set ?_ GE584.out | refine below_set ?_ GE588.out) | exact HB.out)) hb); clear BK583; clear BK584; clear BK588; clear HB; have BK583 := n0_; have BK584 := n1_; have BK588 := n2_; have HB := n3_; clear n0_ n1_ n2_ n3_; (try clear hb); (try clear hb2); (try clear hk); (try clear hi)))
                go_meet
                case rel => exact ⟨_, (true), (by first | rfl | (simp; done) | (simp [*]; done)), H', ⟨by have := HJ8.out; first | omega | exact Nat.le_refl _⟩, ⟨by (with_reducible repeat (first | refine blk_drewN ?_ _ | refine blk_drew ?_ | refine blk_alloc ?_ _)); exact BK583.out⟩, ⟨by (with_reducible repeat (first | refine blk_drewN ?_ _ | refine blk_drew ?_ | refine blk_alloc ?_ _)); exact BK584.out⟩, ⟨by (with_reducible repeat (first | refine blk_drewN ?_ _ | refine blk_drew ?_ | refine blk_alloc ?_ _)); exact BK588.out⟩, ⟨by repeat (first | (with_reducible first | exact HB.out | apply below_alloc | apply pw_below_drewN | apply below_drew1 | refine below_set ?_ GE583.out | refine below_set ?_ GE584.out | refine below_set ?_ GE588.out) | exact HB.out)⟩⟩
          case rest =>
            clear HC51
            try clear c1
            try clear c2
            try clear p2
            try clear c3
            try clear c4
            try clear c5
            try clear c6
            try clear c6b0
            try clear c6b1
            try clear c7
            try clear c12
            try clear c17
            try clear c18
            try clear c26
            try clear c27
            try clear c27b0
            try clear c27b1
            try clear c28
            try clear c28b0
            try clear c28b1
            try clear c29
            try clear c29b0
            try clear c29b1
            try clear c30
            try clear c31
            try clear c32
            try clear c34
            try clear c35
            try clear c38
            try clear c39
            try clear c42
            try clear c43
            try clear c46
            try clear c47
            try clear c50
            try clear c52
            try clear c52b0
            try clear c54
            try clear c56
            try clear c57
            try clear c60
            try clear c63
            try clear c64
            try clear hcz13_0
            try clear hcz13_1
            try clear hcz14_0
            try clear hcz14_1
            try clear hcz19_0
            try clear hcz19_1
            try clear hcz20_0
            try clear hcz20_1
            try clear hcz22_0
            try clear hcz22_1
            try clear hcz23_0
            try clear hcz23_1
            try clear hcz32_0
            try clear hcz32_1
            try clear hcz36_0
            try clear hcz36_1
            try clear hcz40_0
            try clear hcz40_1
            try clear hcz44_0
            try clear hcz44_1
            try clear hcz48_0
            try clear hcz48_1
            try clear hcz58_0
            try clear hcz58_1
            try clear hcz61_0
            try clear hcz61_1
            try clear hcz65_0
            try clear hcz65_1
            try clear hfz13_0
            try clear hfz13_1
            try clear hfz14_0
            try clear hfz14_1
            try clear hfz19_0
            try clear hfz19_1
            try clear hfz20_0
            try clear hfz20_1
            try clear hfz22_0
            try clear hfz22_1
            try clear hfz23_0
            try clear hfz23_1
            try clear hfz32_0
            try clear hfz32_1
            try clear hfz36_0
            try clear hfz36_1
            try clear hfz40_0
            try clear hfz40_1
            try clear hfz44_0
            try clear hfz44_1
            try clear hfz48_0
            try clear hfz48_1
            try clear hfz58_0
            try clear hfz58_1
            try clear hfz61_0
            try clear hfz61_1
            try clear hfz65_0
            try clear hfz65_1
            try clear p2
            obtain ⟨kq, x81_50, rfl, HA, HJ50, BK583, BK584, BK588, HB⟩ := hcut
            cases kq with
            | zero => exact absurd HA.out (by simp [merinolaw01_NumSimplest.j1])
            | succ kj50 =>
              have H := HA.out
              clear HA
              simp only [merinolaw01_NumSimplest.j1] at H
              by_cases c67 : x81_50 = true
              · subst c67
                have H1 : ((merinolaw01_alive.f).bind fun t597 => (some t597)) = some r := by rw [if_pos rfl] at H; exact H
                clear H
                have H := H1
                clear H1
                replace H := Option.bind_eq_some_iff.mp H
                obtain ⟨t597, A680, H⟩ := H
                replace H : (some t597) = some r := H
                have A68 := Aside0.mk A680
                clear A680
                obtain rfl := Option.some.inj H
                go_wp2_with (first | ((with_reducible refine gate_callee (f := 21) rfl ?_); refine goesL_ (some 82) rfl rfl Tryd.func21 (by kernel_rfl) rfl #[] rfl (by (try simp only [List.map_toArray, List.map_cons, List.map_nil]); first | done | rfl | (simp only [List.length_drop, List.length_take]; rfl)) ?_; (with_reducible refine (merinolaw01_alive.calls  t597 _ A68.out).mono ?_); rintro e w69 ⟨rfl, hb⟩; refine ⟨_, rfl, ?_⟩; have n0_ := Aside0.mk (blk_below (g := gb583) (o := .cells #[.int .i64 a0_0, .int .i64 a0_1] 23 (0, 0)) (by (with_reducible repeat (first | refine blk_drewN ?_ _ | refine blk_drew ?_ | refine blk_alloc ?_ _)); exact BK583.out) hb); have n1_ := Aside0.mk (blk_below (g := gb584) (o := .cells #[.int .i64 a1_0, .int .i64 a1_1] 23 (0, 0)) (by (with_reducible repeat (first | refine blk_drewN ?_ _ | refine blk_drew ?_ | refine blk_alloc ?_ _)); exact BK584.out) hb); have n2_ := Aside0.mk (blk_below (g := gb588) (o := .cells #[.int .i64 t585, .int .i64 t586] 23 (0, 0)) (by (with_reducible repeat (first | refine blk_drewN ?_ _ | refine blk_drew ?_ | refine blk_alloc ?_ _)); exact BK588.out) hb); have n3_ := Aside0.mk (below_step (by repeat (first | (with_reducible first | exact HB.out | apply below_alloc | apply pw_below_drewN | apply below_drew1 | refine below_set ?_ GE583.out | refine below_set ?_ GE584.out | refine below_set ?_ GE588.out) | exact HB.out)) hb); clear BK583; clear BK584; clear BK588; clear HB; have BK583 := n0_; have BK584 := n1_; have BK588 := n2_; have HB := n3_; clear n0_ n1_ n2_ n3_; (try clear hb); (try clear hb2); (try clear hk); (try clear hi)))
                go_ret
                exact ⟨by first | rfl | (simp [errW_none, errW_some] <;> rfl) | (simp [*, errW_none, errW_some] <;> rfl), by repeat (first | (with_reducible first | exact HB.out | apply below_alloc | apply pw_below_drewN | apply below_drew1 | refine below_set ?_ GE583.out | refine below_set ?_ GE584.out | refine below_set ?_ GE588.out) | exact HB.out)⟩
              · replace c67 := Bool.eq_false_iff.mpr c67
                subst c67
                have H1 : (if t586 = a3 then ((merinolaw01_distance.f kj50 t585).bind fun bt599 => ((merinolaw01_distance.f kj50 a2).bind fun bt603 => ((merinoref01_Compare.f kj50 bt599.1 bt599.2 bt603.1 bt603.2).bind fun t607 => (if t607 ≤ 0 then ((merinolaw01_alive.f).bind fun t608 => (some t608)) else (some false))))) else (if t586 < a3 then ((merinolaw01_alive.f).bind fun t598 => (some t598)) else (some false))) = some r := by rw [if_neg (show ¬ (false = true) by decide)] at H; exact H
                clear H
                have H := H1
                clear H1
                by_cases c70 : t586 = a3
                · rw [if_pos c70] at H
                  have c70b0 : (t586 == a3) = true := beq_iff_eq.mpr c70
                  have c70b1 : (t586 != a3) = false := bne_eq_false_iff_eq.mpr c70
                  clear c70
                  replace H := Option.bind_eq_some_iff.mp H
                  obtain ⟨⟨t599, t600⟩, A710, H⟩ := H
                  replace H : ((merinolaw01_distance.f kj50 a2).bind fun bt603 => ((merinoref01_Compare.f kj50 t599 t600 bt603.1 bt603.2).bind fun t607 => (if t607 ≤ 0 then ((merinolaw01_alive.f).bind fun t608 => (some t608)) else (some false)))) = some r := H
                  have A71 := Aside0.mk A710
                  clear A710
                  replace H := Option.bind_eq_some_iff.mp H
                  obtain ⟨⟨t603, t604⟩, A720, H⟩ := H
                  replace H : ((merinoref01_Compare.f kj50 t599 t600 t603 t604).bind fun t607 => (if t607 ≤ 0 then ((merinolaw01_alive.f).bind fun t608 => (some t608)) else (some false))) = some r := H
                  have A72 := Aside0.mk A720
                  clear A720
                  replace H := Option.bind_eq_some_iff.mp H
                  obtain ⟨t607, A730, H⟩ := H
                  replace H : (if t607 ≤ 0 then ((merinolaw01_alive.f).bind fun t608 => (some t608)) else (some false)) = some r := H
                  have A73 := Aside0.mk A730
                  clear A730
                  by_cases c74 : t607 ≤ 0
                  · rw [if_pos c74] at H
                    have c74b0 : decide (t607 ≤ 0) = true := decide_eq_true c74
                    clear c74
                    replace H := Option.bind_eq_some_iff.mp H
                    obtain ⟨t608, A750, H⟩ := H
                    replace H : (some t608) = some r := H
                    have A75 := Aside0.mk A750
                    clear A750
                    obtain rfl := Option.some.inj H
                    have hnb76 := NB588_583.out
                    have hnc76 := NB583_588.out
                    have hnb77 := NB588_584.out
                    have hnc77 := NB584_588.out
                    have hcz78_0 : wc.cell? ⟨gb588, 0, none⟩ = some (.int .i64 t585) := (blk_cell BK588.out 0).trans rfl
                    have hcz78_1 : wc.cell? ⟨gb588, 1, none⟩ = some (.int .i64 t586) := (blk_cell BK588.out 1).trans rfl
                    have hfz78_0 := blk_frozen BK588.out 0
                    have hfz78_1 := blk_frozen BK588.out 1
                    go_wp2_with (first | ((with_reducible refine gate_callee (f := 34) rfl ?_); refine goesL_ (some 96) rfl rfl Tryd.func34 (by kernel_rfl) rfl #[.int .i64 t585] rfl (by (try simp only [List.map_toArray, List.map_cons, List.map_nil]); first | done | rfl | (simp only [List.length_drop, List.length_take]; rfl)) ?_; (with_reducible refine (merinolaw01_distance.calls kj50 t585 t599 t600 _ A71.out).mono ?_); rintro e w79 ⟨v601, rfl, ho0, hb⟩; refine ⟨_, rfl, ?_⟩; have n0_ := Aside0.mk (Kd.R_lower ho0 (below_size (by repeat (first | (with_reducible first | exact HB.out | apply below_alloc | apply pw_below_drewN | apply below_drew1 | refine below_set ?_ GE583.out | refine below_set ?_ GE584.out | refine below_set ?_ GE588.out) | exact HB.out)))); have n1_ := Aside0.mk (blk_below (g := gb583) (o := .cells #[.int .i64 a0_0, .int .i64 a0_1] 23 (0, 0)) (by (with_reducible repeat (first | refine blk_drewN ?_ _ | refine blk_drew ?_ | refine blk_alloc ?_ _)); exact BK583.out) hb); have n2_ := Aside0.mk (blk_below (g := gb584) (o := .cells #[.int .i64 a1_0, .int .i64 a1_1] 23 (0, 0)) (by (with_reducible repeat (first | refine blk_drewN ?_ _ | refine blk_drew ?_ | refine blk_alloc ?_ _)); exact BK584.out) hb); have n3_ := Aside0.mk (blk_below (g := gb588) (o := .cells #[.int .i64 t585, .int .i64 t586] 23 (0, 0)) (by (with_reducible repeat (first | refine blk_drewN ?_ _ | refine blk_drew ?_ | refine blk_alloc ?_ _)); exact BK588.out) hb); have n4_ := Aside0.mk (below_step (by repeat (first | (with_reducible first | exact HB.out | apply below_alloc | apply pw_below_drewN | apply below_drew1 | refine below_set ?_ GE583.out | refine below_set ?_ GE584.out | refine below_set ?_ GE588.out) | exact HB.out)) hb); clear BK583; clear BK584; clear BK588; clear HB; have HO602 := n0_; have BK583 := n1_; have BK584 := n2_; have BK588 := n3_; have HB := n4_; clear n0_ n1_ n2_ n3_ n4_; (try clear hb); (try clear hb2); (try clear hk); (try clear hi); (try clear ho0)) | ((with_reducible refine gate_callee (f := 34) rfl ?_); refine goesL_ (some 98) rfl rfl Tryd.func34 (by kernel_rfl) rfl #[.int .i64 a2] rfl (by (try simp only [List.map_toArray, List.map_cons, List.map_nil]); first | done | rfl | (simp only [List.length_drop, List.length_take]; rfl)) ?_; (with_reducible refine (merinolaw01_distance.calls kj50 a2 t603 t604 _ A72.out).mono ?_); rintro e w80 ⟨v605, rfl, ho0, hb⟩; refine ⟨_, rfl, ?_⟩; have n0_ := Aside0.mk (Kd.R_elder' (by (with_reducible repeat (first | apply Kd.R_alloc | apply Kd.R_drewN | apply Kd.R_drew)); exact HO602.out) (Kd.R_base ho0) hb); have n1_ := Aside0.mk (Kd.R_lower (Kd.R_new' ho0 (Kd.R_lt (by (with_reducible repeat (first | apply Kd.R_alloc | apply Kd.R_drewN | apply Kd.R_drew)); exact HO602.out))) (below_size (by repeat (first | (with_reducible first | exact HB.out | apply below_alloc | apply pw_below_drewN | apply below_drew1 | refine below_set ?_ GE583.out | refine below_set ?_ GE584.out | refine below_set ?_ GE588.out) | exact HB.out)))); have n2_ := Aside0.mk (blk_below (g := gb583) (o := .cells #[.int .i64 a0_0, .int .i64 a0_1] 23 (0, 0)) (by (with_reducible repeat (first | refine blk_drewN ?_ _ | refine blk_drew ?_ | refine blk_alloc ?_ _)); exact BK583.out) hb); have n3_ := Aside0.mk (blk_below (g := gb584) (o := .cells #[.int .i64 a1_0, .int .i64 a1_1] 23 (0, 0)) (by (with_reducible repeat (first | refine blk_drewN ?_ _ | refine blk_drew ?_ | refine blk_alloc ?_ _)); exact BK584.out) hb); have n4_ := Aside0.mk (blk_below (g := gb588) (o := .cells #[.int .i64 t585, .int .i64 t586] 23 (0, 0)) (by (with_reducible repeat (first | refine blk_drewN ?_ _ | refine blk_drew ?_ | refine blk_alloc ?_ _)); exact BK588.out) hb); have n5_ := Aside0.mk (below_step (by repeat (first | (with_reducible first | exact HB.out | apply below_alloc | apply pw_below_drewN | apply below_drew1 | refine below_set ?_ GE583.out | refine below_set ?_ GE584.out | refine below_set ?_ GE588.out) | exact HB.out)) hb); clear HO602; clear BK583; clear BK584; clear BK588; clear HB; have HO602 := n0_; have HO606 := n1_; have BK583 := n2_; have BK584 := n3_; have BK588 := n4_; have HB := n5_; clear n0_ n1_ n2_ n3_ n4_ n5_; (try clear hb); (try clear hb2); (try clear hk); (try clear hi); (try clear ho0); obtain ⟨Ao81, co81, eo81⟩ := Kd.R_slice HO602.out; subst eo81; obtain ⟨Ao82, co82, eo82⟩ := Kd.R_slice HO606.out; subst eo82) | ((with_reducible refine gate_callee (f := 25) rfl ?_); refine goesL_ (some 99) rfl rfl Tryd.func25 (by kernel_rfl) rfl #[.agg #[.bool t599, .slice Ao81 t600.length co81], .agg #[.bool t603, .slice Ao82 t604.length co82]] rfl (by (try simp only [List.map_toArray, List.map_cons, List.map_nil]); first | done | rfl | (simp only [List.length_drop, List.length_take]; rfl)) ?_; (with_reducible refine (merinoref01_Compare.calls kj50 t599 _ _ t600 t603 _ _ t604 t607 _ ?side1 ?side2 ?side3 ?side4 A73.out).mono ?_); (case side1 => repeat (first | exact (Kd.R_reads' HO602.out).2.2 | (with_reducible refine Kd.C_alloc ?_ _) | (with_reducible refine Kd.C_drewN ?_ _) | (with_reducible refine Kd.C_drew ?_))); (case side2 => exact (Kd.R_reads' HO602.out).2.1); (case side3 => repeat (first | exact (Kd.R_reads' HO606.out).2.2 | (with_reducible refine Kd.C_alloc ?_ _) | (with_reducible refine Kd.C_drewN ?_ _) | (with_reducible refine Kd.C_drew ?_))); (case side4 => exact (Kd.R_reads' HO606.out).2.1); rintro e w83 ⟨rfl, hb⟩; refine ⟨_, rfl, ?_⟩; have n0_ := Aside0.mk (Kd.R_below (by (with_reducible repeat (first | apply Kd.R_alloc | apply Kd.R_drewN | apply Kd.R_drew)); exact HO602.out) hb); have n1_ := Aside0.mk (Kd.R_below (by (with_reducible repeat (first | apply Kd.R_alloc | apply Kd.R_drewN | apply Kd.R_drew)); exact HO606.out) hb); have n2_ := Aside0.mk (blk_below (g := gb583) (o := .cells #[.int .i64 a0_0, .int .i64 a0_1] 23 (0, 0)) (by (with_reducible repeat (first | refine blk_drewN ?_ _ | refine blk_drew ?_ | refine blk_alloc ?_ _)); exact BK583.out) hb); have n3_ := Aside0.mk (blk_below (g := gb584) (o := .cells #[.int .i64 a1_0, .int .i64 a1_1] 23 (0, 0)) (by (with_reducible repeat (first | refine blk_drewN ?_ _ | refine blk_drew ?_ | refine blk_alloc ?_ _)); exact BK584.out) hb); have n4_ := Aside0.mk (blk_below (g := gb588) (o := .cells #[.int .i64 t585, .int .i64 t586] 23 (0, 0)) (by (with_reducible repeat (first | refine blk_drewN ?_ _ | refine blk_drew ?_ | refine blk_alloc ?_ _)); exact BK588.out) hb); have n5_ := Aside0.mk (below_step (by repeat (first | (with_reducible first | exact HB.out | apply below_alloc | apply pw_below_drewN | apply below_drew1 | refine below_set ?_ GE583.out | refine below_set ?_ GE584.out | refine below_set ?_ GE588.out) | exact HB.out)) hb); clear HO602; clear HO606; clear BK583; clear BK584; clear BK588; clear HB; have HO602 := n0_; have HO606 := n1_; have BK583 := n2_; have BK584 := n3_; have BK588 := n4_; have HB := n5_; clear n0_ n1_ n2_ n3_ n4_ n5_; (try clear hb); (try clear hb2); (try clear hk); (try clear hi)) | (go_at_call 21; (with_reducible refine (merinolaw01_alive.calls  t608 _ A75.out).mono ?_); rintro e w84 ⟨rfl, hb⟩; have n0_ := Aside0.mk (Kd.R_below (by (with_reducible repeat (first | apply Kd.R_alloc | apply Kd.R_drewN | apply Kd.R_drew)); exact HO602.out) hb); have n1_ := Aside0.mk (Kd.R_below (by (with_reducible repeat (first | apply Kd.R_alloc | apply Kd.R_drewN | apply Kd.R_drew)); exact HO606.out) hb); have n2_ := Aside0.mk (blk_below (g := gb583) (o := .cells #[.int .i64 a0_0, .int .i64 a0_1] 23 (0, 0)) (by (with_reducible repeat (first | refine blk_drewN ?_ _ | refine blk_drew ?_ | refine blk_alloc ?_ _)); exact BK583.out) hb); have n3_ := Aside0.mk (blk_below (g := gb584) (o := .cells #[.int .i64 a1_0, .int .i64 a1_1] 23 (0, 0)) (by (with_reducible repeat (first | refine blk_drewN ?_ _ | refine blk_drew ?_ | refine blk_alloc ?_ _)); exact BK584.out) hb); have n4_ := Aside0.mk (blk_below (g := gb588) (o := .cells #[.int .i64 t585, .int .i64 t586] 23 (0, 0)) (by (with_reducible repeat (first | refine blk_drewN ?_ _ | refine blk_drew ?_ | refine blk_alloc ?_ _)); exact BK588.out) hb); have n5_ := Aside0.mk (below_step (by repeat (first | (with_reducible first | exact HB.out | apply below_alloc | apply pw_below_drewN | apply below_drew1 | refine below_set ?_ GE583.out | refine below_set ?_ GE584.out | refine below_set ?_ GE588.out) | exact HB.out)) hb); clear HO602; clear HO606; clear BK583; clear BK584; clear BK588; clear HB; have HO602 := n0_; have HO606 := n1_; have BK583 := n2_; have BK584 := n3_; have BK588 := n4_; have HB := n5_; clear n0_ n1_ n2_ n3_ n4_ n5_; (try clear hb); (try clear hb2); (try clear hk); (try clear hi)))
                    go_ret
                    exact ⟨by first | rfl | (simp [errW_none, errW_some] <;> rfl) | (simp [*, errW_none, errW_some] <;> rfl), by repeat (first | (with_reducible first | exact HB.out | apply below_alloc | apply pw_below_drewN | apply below_drew1 | refine below_set ?_ GE583.out | refine below_set ?_ GE584.out | refine below_set ?_ GE588.out) | exact HB.out)⟩
                  · rw [if_neg c74] at H
                    have c74b0 : decide (t607 ≤ 0) = false := decide_eq_false c74
                    clear c74
                    obtain rfl := Option.some.inj H
                    have hnb85 := NB588_583.out
                    have hnc85 := NB583_588.out
                    have hnb86 := NB588_584.out
                    have hnc86 := NB584_588.out
                    have hcz87_0 : wc.cell? ⟨gb588, 0, none⟩ = some (.int .i64 t585) := (blk_cell BK588.out 0).trans rfl
                    have hcz87_1 : wc.cell? ⟨gb588, 1, none⟩ = some (.int .i64 t586) := (blk_cell BK588.out 1).trans rfl
                    have hfz87_0 := blk_frozen BK588.out 0
                    have hfz87_1 := blk_frozen BK588.out 1
                    go_wp2_with (first | ((with_reducible refine gate_callee (f := 34) rfl ?_); refine goesL_ (some 96) rfl rfl Tryd.func34 (by kernel_rfl) rfl #[.int .i64 t585] rfl (by (try simp only [List.map_toArray, List.map_cons, List.map_nil]); first | done | rfl | (simp only [List.length_drop, List.length_take]; rfl)) ?_; (with_reducible refine (merinolaw01_distance.calls kj50 t585 t599 t600 _ A71.out).mono ?_); rintro e w88 ⟨v601, rfl, ho0, hb⟩; refine ⟨_, rfl, ?_⟩; have n0_ := Aside0.mk (Kd.R_lower ho0 (below_size (by repeat (first | (with_reducible first | exact HB.out | apply below_alloc | apply pw_below_drewN | apply below_drew1 | refine below_set ?_ GE583.out | refine below_set ?_ GE584.out | refine below_set ?_ GE588.out) | exact HB.out)))); have n1_ := Aside0.mk (blk_below (g := gb583) (o := .cells #[.int .i64 a0_0, .int .i64 a0_1] 23 (0, 0)) (by (with_reducible repeat (first | refine blk_drewN ?_ _ | refine blk_drew ?_ | refine blk_alloc ?_ _)); exact BK583.out) hb); have n2_ := Aside0.mk (blk_below (g := gb584) (o := .cells #[.int .i64 a1_0, .int .i64 a1_1] 23 (0, 0)) (by (with_reducible repeat (first | refine blk_drewN ?_ _ | refine blk_drew ?_ | refine blk_alloc ?_ _)); exact BK584.out) hb); have n3_ := Aside0.mk (blk_below (g := gb588) (o := .cells #[.int .i64 t585, .int .i64 t586] 23 (0, 0)) (by (with_reducible repeat (first | refine blk_drewN ?_ _ | refine blk_drew ?_ | refine blk_alloc ?_ _)); exact BK588.out) hb); have n4_ := Aside0.mk (below_step (by repeat (first | (with_reducible first | exact HB.out | apply below_alloc | apply pw_below_drewN | apply below_drew1 | refine below_set ?_ GE583.out | refine below_set ?_ GE584.out | refine below_set ?_ GE588.out) | exact HB.out)) hb); clear BK583; clear BK584; clear BK588; clear HB; have HO602 := n0_; have BK583 := n1_; have BK584 := n2_; have BK588 := n3_; have HB := n4_; clear n0_ n1_ n2_ n3_ n4_; (try clear hb); (try clear hb2); (try clear hk); (try clear hi); (try clear ho0)) | ((with_reducible refine gate_callee (f := 34) rfl ?_); refine goesL_ (some 98) rfl rfl Tryd.func34 (by kernel_rfl) rfl #[.int .i64 a2] rfl (by (try simp only [List.map_toArray, List.map_cons, List.map_nil]); first | done | rfl | (simp only [List.length_drop, List.length_take]; rfl)) ?_; (with_reducible refine (merinolaw01_distance.calls kj50 a2 t603 t604 _ A72.out).mono ?_); rintro e w89 ⟨v605, rfl, ho0, hb⟩; refine ⟨_, rfl, ?_⟩; have n0_ := Aside0.mk (Kd.R_elder' (by (with_reducible repeat (first | apply Kd.R_alloc | apply Kd.R_drewN | apply Kd.R_drew)); exact HO602.out) (Kd.R_base ho0) hb); have n1_ := Aside0.mk (Kd.R_lower (Kd.R_new' ho0 (Kd.R_lt (by (with_reducible repeat (first | apply Kd.R_alloc | apply Kd.R_drewN | apply Kd.R_drew)); exact HO602.out))) (below_size (by repeat (first | (with_reducible first | exact HB.out | apply below_alloc | apply pw_below_drewN | apply below_drew1 | refine below_set ?_ GE583.out | refine below_set ?_ GE584.out | refine below_set ?_ GE588.out) | exact HB.out)))); have n2_ := Aside0.mk (blk_below (g := gb583) (o := .cells #[.int .i64 a0_0, .int .i64 a0_1] 23 (0, 0)) (by (with_reducible repeat (first | refine blk_drewN ?_ _ | refine blk_drew ?_ | refine blk_alloc ?_ _)); exact BK583.out) hb); have n3_ := Aside0.mk (blk_below (g := gb584) (o := .cells #[.int .i64 a1_0, .int .i64 a1_1] 23 (0, 0)) (by (with_reducible repeat (first | refine blk_drewN ?_ _ | refine blk_drew ?_ | refine blk_alloc ?_ _)); exact BK584.out) hb); have n4_ := Aside0.mk (blk_below (g := gb588) (o := .cells #[.int .i64 t585, .int .i64 t586] 23 (0, 0)) (by (with_reducible repeat (first | refine blk_drewN ?_ _ | refine blk_drew ?_ | refine blk_alloc ?_ _)); exact BK588.out) hb); have n5_ := Aside0.mk (below_step (by repeat (first | (with_reducible first | exact HB.out | apply below_alloc | apply pw_below_drewN | apply below_drew1 | refine below_set ?_ GE583.out | refine below_set ?_ GE584.out | refine below_set ?_ GE588.out) | exact HB.out)) hb); clear HO602; clear BK583; clear BK584; clear BK588; clear HB; have HO602 := n0_; have HO606 := n1_; have BK583 := n2_; have BK584 := n3_; have BK588 := n4_; have HB := n5_; clear n0_ n1_ n2_ n3_ n4_ n5_; (try clear hb); (try clear hb2); (try clear hk); (try clear hi); (try clear ho0); obtain ⟨Ao90, co90, eo90⟩ := Kd.R_slice HO602.out; subst eo90; obtain ⟨Ao91, co91, eo91⟩ := Kd.R_slice HO606.out; subst eo91) | ((with_reducible refine gate_callee (f := 25) rfl ?_); refine goesL_ (some 99) rfl rfl Tryd.func25 (by kernel_rfl) rfl #[.agg #[.bool t599, .slice Ao90 t600.length co90], .agg #[.bool t603, .slice Ao91 t604.length co91]] rfl (by (try simp only [List.map_toArray, List.map_cons, List.map_nil]); first | done | rfl | (simp only [List.length_drop, List.length_take]; rfl)) ?_; (with_reducible refine (merinoref01_Compare.calls kj50 t599 _ _ t600 t603 _ _ t604 t607 _ ?side1 ?side2 ?side3 ?side4 A73.out).mono ?_); (case side1 => repeat (first | exact (Kd.R_reads' HO602.out).2.2 | (with_reducible refine Kd.C_alloc ?_ _) | (with_reducible refine Kd.C_drewN ?_ _) | (with_reducible refine Kd.C_drew ?_))); (case side2 => exact (Kd.R_reads' HO602.out).2.1); (case side3 => repeat (first | exact (Kd.R_reads' HO606.out).2.2 | (with_reducible refine Kd.C_alloc ?_ _) | (with_reducible refine Kd.C_drewN ?_ _) | (with_reducible refine Kd.C_drew ?_))); (case side4 => exact (Kd.R_reads' HO606.out).2.1); rintro e w92 ⟨rfl, hb⟩; refine ⟨_, rfl, ?_⟩; have n0_ := Aside0.mk (Kd.R_below (by (with_reducible repeat (first | apply Kd.R_alloc | apply Kd.R_drewN | apply Kd.R_drew)); exact HO602.out) hb); have n1_ := Aside0.mk (Kd.R_below (by (with_reducible repeat (first | apply Kd.R_alloc | apply Kd.R_drewN | apply Kd.R_drew)); exact HO606.out) hb); have n2_ := Aside0.mk (blk_below (g := gb583) (o := .cells #[.int .i64 a0_0, .int .i64 a0_1] 23 (0, 0)) (by (with_reducible repeat (first | refine blk_drewN ?_ _ | refine blk_drew ?_ | refine blk_alloc ?_ _)); exact BK583.out) hb); have n3_ := Aside0.mk (blk_below (g := gb584) (o := .cells #[.int .i64 a1_0, .int .i64 a1_1] 23 (0, 0)) (by (with_reducible repeat (first | refine blk_drewN ?_ _ | refine blk_drew ?_ | refine blk_alloc ?_ _)); exact BK584.out) hb); have n4_ := Aside0.mk (blk_below (g := gb588) (o := .cells #[.int .i64 t585, .int .i64 t586] 23 (0, 0)) (by (with_reducible repeat (first | refine blk_drewN ?_ _ | refine blk_drew ?_ | refine blk_alloc ?_ _)); exact BK588.out) hb); have n5_ := Aside0.mk (below_step (by repeat (first | (with_reducible first | exact HB.out | apply below_alloc | apply pw_below_drewN | apply below_drew1 | refine below_set ?_ GE583.out | refine below_set ?_ GE584.out | refine below_set ?_ GE588.out) | exact HB.out)) hb); clear HO602; clear HO606; clear BK583; clear BK584; clear BK588; clear HB; have HO602 := n0_; have HO606 := n1_; have BK583 := n2_; have BK584 := n3_; have BK588 := n4_; have HB := n5_; clear n0_ n1_ n2_ n3_ n4_ n5_; (try clear hb); (try clear hb2); (try clear hk); (try clear hi)))
                    go_ret
                    exact ⟨by first | rfl | (simp [errW_none, errW_some] <;> rfl) | (simp [*, errW_none, errW_some] <;> rfl), by repeat (first | (with_reducible first | exact HB.out | apply below_alloc | apply pw_below_drewN | apply below_drew1 | refine below_set ?_ GE583.out | refine below_set ?_ GE584.out | refine below_set ?_ GE588.out) | exact HB.out)⟩
                · rw [if_neg c70] at H
                  have c70b0 : (t586 == a3) = false := beq_eq_false_iff_ne.mpr c70
                  have c70b1 : (t586 != a3) = true := bne_iff_ne.mpr c70
                  by_cases c93 : t586 < a3
                  · rw [if_pos c93] at H
                    have c93b0 : decide (t586 < a3) = true := decide_eq_true c93
                    clear c93
                    replace H := Option.bind_eq_some_iff.mp H
                    obtain ⟨t598, A940, H⟩ := H
                    replace H : (some t598) = some r := H
                    have A94 := Aside0.mk A940
                    clear A940
                    obtain rfl := Option.some.inj H
                    have hnb95 := NB588_583.out
                    have hnc95 := NB583_588.out
                    have hnb96 := NB588_584.out
                    have hnc96 := NB584_588.out
                    have hcz97_0 : wc.cell? ⟨gb588, 0, none⟩ = some (.int .i64 t585) := (blk_cell BK588.out 0).trans rfl
                    have hcz97_1 : wc.cell? ⟨gb588, 1, none⟩ = some (.int .i64 t586) := (blk_cell BK588.out 1).trans rfl
                    have hfz97_0 := blk_frozen BK588.out 0
                    have hfz97_1 := blk_frozen BK588.out 1
                    go_wp2_with (first | (go_at_call 21; (with_reducible refine (merinolaw01_alive.calls  t598 _ A94.out).mono ?_); rintro e w98 ⟨rfl, hb⟩; have n0_ := Aside0.mk (blk_below (g := gb583) (o := .cells #[.int .i64 a0_0, .int .i64 a0_1] 23 (0, 0)) (by (with_reducible repeat (first | refine blk_drewN ?_ _ | refine blk_drew ?_ | refine blk_alloc ?_ _)); exact BK583.out) hb); have n1_ := Aside0.mk (blk_below (g := gb584) (o := .cells #[.int .i64 a1_0, .int .i64 a1_1] 23 (0, 0)) (by (with_reducible repeat (first | refine blk_drewN ?_ _ | refine blk_drew ?_ | refine blk_alloc ?_ _)); exact BK584.out) hb); have n2_ := Aside0.mk (blk_below (g := gb588) (o := .cells #[.int .i64 t585, .int .i64 t586] 23 (0, 0)) (by (with_reducible repeat (first | refine blk_drewN ?_ _ | refine blk_drew ?_ | refine blk_alloc ?_ _)); exact BK588.out) hb); have n3_ := Aside0.mk (below_step (by repeat (first | (with_reducible first | exact HB.out | apply below_alloc | apply pw_below_drewN | apply below_drew1 | refine below_set ?_ GE583.out | refine below_set ?_ GE584.out | refine below_set ?_ GE588.out) | exact HB.out)) hb); clear BK583; clear BK584; clear BK588; clear HB; have BK583 := n0_; have BK584 := n1_; have BK588 := n2_; have HB := n3_; clear n0_ n1_ n2_ n3_; (try clear hb); (try clear hb2); (try clear hk); (try clear hi)))
                    go_ret
                    exact ⟨by first | rfl | (simp [errW_none, errW_some] <;> rfl) | (simp [*, errW_none, errW_some] <;> rfl), by repeat (first | (with_reducible first | exact HB.out | apply below_alloc | apply pw_below_drewN | apply below_drew1 | refine below_set ?_ GE583.out | refine below_set ?_ GE584.out | refine below_set ?_ GE588.out) | exact HB.out)⟩
                  · rw [if_neg c93] at H
                    have c93b0 : decide (t586 < a3) = false := decide_eq_false c93
                    clear c93
                    obtain rfl := Option.some.inj H
                    have hnb99 := NB588_583.out
                    have hnc99 := NB583_588.out
                    have hnb100 := NB588_584.out
                    have hnc100 := NB584_588.out
                    have hcz101_0 : wc.cell? ⟨gb588, 0, none⟩ = some (.int .i64 t585) := (blk_cell BK588.out 0).trans rfl
                    have hcz101_1 : wc.cell? ⟨gb588, 1, none⟩ = some (.int .i64 t586) := (blk_cell BK588.out 1).trans rfl
                    have hfz101_0 := blk_frozen BK588.out 0
                    have hfz101_1 := blk_frozen BK588.out 1
                    go_wp2
                    go_ret
                    exact ⟨by first | rfl | (simp [errW_none, errW_some] <;> rfl) | (simp [*, errW_none, errW_some] <;> rfl), by repeat (first | (with_reducible first | exact HB.out | apply below_alloc | apply pw_below_drewN | apply below_drew1 | refine below_set ?_ GE583.out | refine below_set ?_ GE584.out | refine below_set ?_ GE588.out) | exact HB.out)⟩
  · rw [if_neg c6] at H
    have c6b0 : (t587 == 0) = false := beq_eq_false_iff_ne.mpr c6
    have c6b1 : (t587 != 0) = true := bne_iff_ne.mpr c6
    by_cases c102 : (t585 == 0 && (t586 == 0)) = true
    · rw [if_pos c102] at H
      have c102b0 : (t585 == 0 && (t586 == 0)) = true := c102
      (try (have c102b1 : decide (t585 = 0 && (t586 == 0)) = true := by simpa using c102))
      (try (have c102b2 : (t585 == 0 && (t586 == 0)) = true := by simpa using c102))
      have y0 : (t585 == 0) = true := by simp at c102b0; simp [c102b0.1]
      have y1 : (t586 == 0) = true := by simp at c102b0; simp [c102b0.2]
      clear c102
      replace H := Option.bind_eq_some_iff.mp H
      obtain ⟨t589, A1030, H⟩ := H
      replace H : (some t589) = some r := H
      have A103 := Aside0.mk A1030
      clear A1030
      obtain rfl := Option.some.inj H
      go_enter Tryd.func7, Tryd.ntmps7
      go_wp2_with (first | ((with_reducible refine gate_dst (N := 4) rfl ?_); refine box_event ?hg (N := 4) ?hd (cs := #[.int .i64 a0_0, .int .i64 a0_1]) (t := 23) ?hr ?_; (case hd => rfl); (case hg => rfl); (case hr => first | (go_simp; done) | (go_simp; rfl)); intro gb583 hg w104 hbox hb; have n0_ := Aside0.mk (below_step (by repeat (first | (with_reducible first | exact HB.out | apply below_alloc | apply pw_below_drewN | apply below_drew1) | exact HB.out)) hb); have n1_ := Aside0.mk (hbox); have n2_ := Aside0.mk ((by rw [hg]; exact (below_size (by repeat (first | (with_reducible first | exact HB.out | apply below_alloc | apply pw_below_drewN | apply below_drew1) | exact HB.out))) : w.heap.size ≤ gb583)); have n3_ := Aside0.mk ((by rw [hg]; exact (below_size (by repeat (first | (with_reducible first | exact HB.out | apply below_alloc | apply pw_below_drewN | apply below_drew1) | exact HB.out))) : w.heap.size ≤ gb583)); clear HB; have HB := n0_; have BK583 := n1_; have GW583 := n2_; have GE583 := n3_; clear n0_ n1_ n2_ n3_; clear hb hbox hg) | ((with_reducible refine gate_dst (N := 5) rfl ?_); refine box_event ?hg (N := 5) ?hd (cs := #[.int .i64 a1_0, .int .i64 a1_1]) (t := 23) ?hr ?_; (case hd => rfl); (case hg => rfl); (case hr => first | (go_simp; done) | (go_simp; rfl)); intro gb584 hg w105 hbox hb; have n0_ := Aside0.mk (blk_below (g := gb583) (o := .cells #[.int .i64 a0_0, .int .i64 a0_1] 23 (0, 0)) (by (with_reducible repeat (first | refine blk_drewN ?_ _ | refine blk_drew ?_ | refine blk_alloc ?_ _)); exact BK583.out) hb); have n1_ := Aside0.mk (below_step (by repeat (first | (with_reducible first | exact HB.out | apply below_alloc | apply pw_below_drewN | apply below_drew1 | refine below_set ?_ GE583.out) | exact HB.out)) hb); have n2_ := Aside0.mk (hbox); have n3_ := Aside0.mk ((by rw [hg]; exact (below_size (by repeat (first | (with_reducible first | exact HB.out | apply below_alloc | apply pw_below_drewN | apply below_drew1 | refine below_set ?_ GE583.out) | exact HB.out))) : w.heap.size ≤ gb584)); have n4_ := Aside0.mk ((by rw [hg]; exact (below_size (by repeat (first | (with_reducible first | exact HB.out | apply below_alloc | apply pw_below_drewN | apply below_drew1 | refine below_set ?_ GE583.out) | exact HB.out))) : w.heap.size ≤ gb584)); have n5_ := Aside0.mk ((by rw [hg]; exact Nat.ne_of_lt (blk_lt (g := gb583) (o := .cells #[.int .i64 a0_0, .int .i64 a0_1] 23 (0, 0)) (by (with_reducible repeat (first | refine blk_drewN ?_ _ | refine blk_drew ?_ | refine blk_alloc ?_ _)); exact BK583.out)) : gb583 ≠ gb584)); have n6_ := Aside0.mk ((by rw [hg]; exact Nat.ne_of_gt (blk_lt (g := gb583) (o := .cells #[.int .i64 a0_0, .int .i64 a0_1] 23 (0, 0)) (by (with_reducible repeat (first | refine blk_drewN ?_ _ | refine blk_drew ?_ | refine blk_alloc ?_ _)); exact BK583.out)) : gb584 ≠ gb583)); clear BK583; clear HB; have BK583 := n0_; have HB := n1_; have BK584 := n2_; have GW584 := n3_; have GE584 := n4_; have NB583_584 := n5_; have NB584_583 := n6_; clear n0_ n1_ n2_ n3_ n4_ n5_ n6_; clear hb hbox hg; have hnb106 := NB583_584.out; have hnc106 := NB584_583.out; have hcz107_0 : w105.cell? ⟨gb583, 0, none⟩ = some (.int .i64 a0_0) := (blk_cell BK583.out 0).trans rfl; have hcz107_1 : w105.cell? ⟨gb583, 1, none⟩ = some (.int .i64 a0_1) := (blk_cell BK583.out 1).trans rfl; have hfz107_0 := blk_frozen BK583.out 0; have hfz107_1 := blk_frozen BK583.out 1; have hcz108_0 : w105.cell? ⟨gb584, 0, none⟩ = some (.int .i64 a1_0) := (blk_cell BK584.out 0).trans rfl; have hcz108_1 : w105.cell? ⟨gb584, 1, none⟩ = some (.int .i64 a1_1) := (blk_cell BK584.out 1).trans rfl; have hfz108_0 := blk_frozen BK584.out 0; have hfz108_1 := blk_frozen BK584.out 1) | ((with_reducible refine gate_callee (f := 30) rfl ?_); refine goesL_ (some 18) rfl rfl Tryd.func30 (by kernel_rfl) rfl #[.agg #[.int .i64 a0_0, .int .i64 a0_1], .agg #[.int .i64 a1_0, .int .i64 a1_1]] rfl (by (try simp only [List.map_toArray, List.map_cons, List.map_nil]); first | done | rfl | (simp only [List.length_drop, List.length_take]; rfl)) ?_; (with_reducible refine (num_Between.calls k a0_0 a0_1 a1_0 a1_1 t585 t586 t587 _ A5.out).mono ?_); rintro e w109 ⟨rfl, hb⟩; refine ⟨_, rfl, ?_⟩; have n0_ := Aside0.mk (blk_below (g := gb583) (o := .cells #[.int .i64 a0_0, .int .i64 a0_1] 23 (0, 0)) (by (with_reducible repeat (first | refine blk_drewN ?_ _ | refine blk_drew ?_ | refine blk_alloc ?_ _)); exact BK583.out) hb); have n1_ := Aside0.mk (blk_below (g := gb584) (o := .cells #[.int .i64 a1_0, .int .i64 a1_1] 23 (0, 0)) (by (with_reducible repeat (first | refine blk_drewN ?_ _ | refine blk_drew ?_ | refine blk_alloc ?_ _)); exact BK584.out) hb); have n2_ := Aside0.mk (below_step (by repeat (first | (with_reducible first | exact HB.out | apply below_alloc | apply pw_below_drewN | apply below_drew1 | refine below_set ?_ GE583.out | refine below_set ?_ GE584.out) | exact HB.out)) hb); clear BK583; clear BK584; clear HB; have BK583 := n0_; have BK584 := n1_; have HB := n2_; clear n0_ n1_ n2_; (try clear hb); (try clear hb2); (try clear hk); (try clear hi)) | ((with_reducible refine gate_dst (N := 9) rfl ?_); refine box_event ?hg (N := 9) ?hd (cs := #[.int .i64 0, .int .i64 0]) (t := 23) ?hr ?_; (case hd => rfl); (case hg => rfl); (case hr => first | (go_simp; done) | (go_simp; rfl)); intro gb588 hg w110 hbox hb; have n0_ := Aside0.mk (blk_below (g := gb583) (o := .cells #[.int .i64 a0_0, .int .i64 a0_1] 23 (0, 0)) (by (with_reducible repeat (first | refine blk_drewN ?_ _ | refine blk_drew ?_ | refine blk_alloc ?_ _)); exact BK583.out) hb); have n1_ := Aside0.mk (blk_below (g := gb584) (o := .cells #[.int .i64 a1_0, .int .i64 a1_1] 23 (0, 0)) (by (with_reducible repeat (first | refine blk_drewN ?_ _ | refine blk_drew ?_ | refine blk_alloc ?_ _)); exact BK584.out) hb); have n2_ := Aside0.mk (below_step (by repeat (first | (with_reducible first | exact HB.out | apply below_alloc | apply pw_below_drewN | apply below_drew1 | refine below_set ?_ GE583.out | refine below_set ?_ GE584.out) | exact HB.out)) hb); have n3_ := Aside0.mk (hbox); have n4_ := Aside0.mk ((by rw [hg]; exact (below_size (by repeat (first | (with_reducible first | exact HB.out | apply below_alloc | apply pw_below_drewN | apply below_drew1 | refine below_set ?_ GE583.out | refine below_set ?_ GE584.out) | exact HB.out))) : w.heap.size ≤ gb588)); have n5_ := Aside0.mk ((by rw [hg]; exact (below_size (by repeat (first | (with_reducible first | exact HB.out | apply below_alloc | apply pw_below_drewN | apply below_drew1 | refine below_set ?_ GE583.out | refine below_set ?_ GE584.out) | exact HB.out))) : w.heap.size ≤ gb588)); have n6_ := Aside0.mk ((by rw [hg]; exact Nat.ne_of_lt (blk_lt (g := gb583) (o := .cells #[.int .i64 a0_0, .int .i64 a0_1] 23 (0, 0)) (by (with_reducible repeat (first | refine blk_drewN ?_ _ | refine blk_drew ?_ | refine blk_alloc ?_ _)); exact BK583.out)) : gb583 ≠ gb588)); have n7_ := Aside0.mk ((by rw [hg]; exact Nat.ne_of_gt (blk_lt (g := gb583) (o := .cells #[.int .i64 a0_0, .int .i64 a0_1] 23 (0, 0)) (by (with_reducible repeat (first | refine blk_drewN ?_ _ | refine blk_drew ?_ | refine blk_alloc ?_ _)); exact BK583.out)) : gb588 ≠ gb583)); have n8_ := Aside0.mk ((by rw [hg]; exact Nat.ne_of_lt (blk_lt (g := gb584) (o := .cells #[.int .i64 a1_0, .int .i64 a1_1] 23 (0, 0)) (by (with_reducible repeat (first | refine blk_drewN ?_ _ | refine blk_drew ?_ | refine blk_alloc ?_ _)); exact BK584.out)) : gb584 ≠ gb588)); have n9_ := Aside0.mk ((by rw [hg]; exact Nat.ne_of_gt (blk_lt (g := gb584) (o := .cells #[.int .i64 a1_0, .int .i64 a1_1] 23 (0, 0)) (by (with_reducible repeat (first | refine blk_drewN ?_ _ | refine blk_drew ?_ | refine blk_alloc ?_ _)); exact BK584.out)) : gb588 ≠ gb584)); clear BK583; clear BK584; clear HB; have BK583 := n0_; have BK584 := n1_; have HB := n2_; have BK588 := n3_; have GW588 := n4_; have GE588 := n5_; have NB583_588 := n6_; have NB588_583 := n7_; have NB584_588 := n8_; have NB588_584 := n9_; clear n0_ n1_ n2_ n3_ n4_ n5_ n6_ n7_ n8_ n9_; clear hb hbox hg; have hnb111 := NB588_583.out; have hnc111 := NB583_588.out; have hnb112 := NB588_584.out; have hnc112 := NB584_588.out; have hcz113_0 : w110.cell? ⟨gb588, 0, none⟩ = some (.int .i64 0) := (blk_cell BK588.out 0).trans rfl; have hcz113_1 : w110.cell? ⟨gb588, 1, none⟩ = some (.int .i64 0) := (blk_cell BK588.out 1).trans rfl; have hfz113_0 := blk_frozen BK588.out 0; have hfz113_1 := blk_frozen BK588.out 1) | (go_at_call 21; (with_reducible refine (merinolaw01_alive.calls  t589 _ A103.out).mono ?_); rintro e w114 ⟨rfl, hb⟩; have n0_ := Aside0.mk (blk_below (g := gb583) (o := .cells #[.int .i64 a0_0, .int .i64 a0_1] 23 (0, 0)) (by (with_reducible repeat (first | refine blk_drewN ?_ _ | refine blk_drew ?_ | refine blk_alloc ?_ _)); refine blk_far ?_ NB583_588.out _; (with_reducible repeat (first | refine blk_drewN ?_ _ | refine blk_drew ?_ | refine blk_alloc ?_ _)); refine blk_far ?_ NB583_588.out _; (with_reducible repeat (first | refine blk_drewN ?_ _ | refine blk_drew ?_ | refine blk_alloc ?_ _)); exact BK583.out) hb); have n1_ := Aside0.mk (blk_below (g := gb584) (o := .cells #[.int .i64 a1_0, .int .i64 a1_1] 23 (0, 0)) (by (with_reducible repeat (first | refine blk_drewN ?_ _ | refine blk_drew ?_ | refine blk_alloc ?_ _)); refine blk_far ?_ NB584_588.out _; (with_reducible repeat (first | refine blk_drewN ?_ _ | refine blk_drew ?_ | refine blk_alloc ?_ _)); refine blk_far ?_ NB584_588.out _; (with_reducible repeat (first | refine blk_drewN ?_ _ | refine blk_drew ?_ | refine blk_alloc ?_ _)); exact BK584.out) hb); have n2_ := Aside0.mk (blk_below (g := gb588) (o := .cells #[.int .i64 t585, .int .i64 t586] 23 (0, 0)) (by (with_reducible repeat (first | refine blk_drewN ?_ _ | refine blk_drew ?_ | refine blk_alloc ?_ _)); refine blk_put (cs := #[.int .i64 t585, .int .i64 0]) ?_ 1 _ rfl; (with_reducible repeat (first | refine blk_drewN ?_ _ | refine blk_drew ?_ | refine blk_alloc ?_ _)); refine blk_put (cs := #[.int .i64 0, .int .i64 0]) ?_ 0 _ rfl; (with_reducible repeat (first | refine blk_drewN ?_ _ | refine blk_drew ?_ | refine blk_alloc ?_ _)); exact BK588.out) hb); have n3_ := Aside0.mk (below_step (by repeat (first | (with_reducible first | exact HB.out | apply below_alloc | apply pw_below_drewN | apply below_drew1 | refine below_set ?_ GE583.out | refine below_set ?_ GE584.out | refine below_set ?_ GE588.out) | exact HB.out)) hb); clear BK583; clear BK584; clear BK588; clear HB; have BK583 := n0_; have BK584 := n1_; have BK588 := n2_; have HB := n3_; clear n0_ n1_ n2_ n3_; (try clear hb); (try clear hb2); (try clear hk); (try clear hi)))
      go_ret
      exact ⟨by first | rfl | (simp [errW_none, errW_some] <;> rfl) | (simp [*, errW_none, errW_some] <;> rfl), by repeat (first | (with_reducible first | exact HB.out | apply below_alloc | apply pw_below_drewN | apply below_drew1 | refine below_set ?_ GE583.out | refine below_set ?_ GE584.out | refine below_set ?_ GE588.out) | exact HB.out)⟩
    · rw [if_neg c102] at H
      have c102b0 : (t585 == 0 && (t586 == 0)) = false := by simpa using c102
      (try (have c102b1 : decide (t585 = 0 && (t586 == 0)) = false := by simpa using c102))
      (try (have c102b2 : (t585 == 0 && (t586 == 0)) = false := by simpa using c102))
      (try (have c102b3 : ¬ (t585 = 0 && (t586 == 0)) := by simpa using c102))
      obtain rfl := Option.some.inj H
      by_cases z0 : t585 = 0
      · have y0 : (t585 == 0) = true := beq_iff_eq.mpr z0
        have y1 : (t586 == 0) = false := beq_eq_false_iff_ne.mpr (fun h => c102 (by rw [z0, h]; rfl))
        clear z0 c102
        go_enter Tryd.func7, Tryd.ntmps7
        go_wp2_with (first | ((with_reducible refine gate_dst (N := 4) rfl ?_); refine box_event ?hg (N := 4) ?hd (cs := #[.int .i64 a0_0, .int .i64 a0_1]) (t := 23) ?hr ?_; (case hd => rfl); (case hg => rfl); (case hr => first | (go_simp; done) | (go_simp; rfl)); intro gb583 hg w115 hbox hb; have n0_ := Aside0.mk (below_step (by repeat (first | (with_reducible first | exact HB.out | apply below_alloc | apply pw_below_drewN | apply below_drew1) | exact HB.out)) hb); have n1_ := Aside0.mk (hbox); have n2_ := Aside0.mk ((by rw [hg]; exact (below_size (by repeat (first | (with_reducible first | exact HB.out | apply below_alloc | apply pw_below_drewN | apply below_drew1) | exact HB.out))) : w.heap.size ≤ gb583)); have n3_ := Aside0.mk ((by rw [hg]; exact (below_size (by repeat (first | (with_reducible first | exact HB.out | apply below_alloc | apply pw_below_drewN | apply below_drew1) | exact HB.out))) : w.heap.size ≤ gb583)); clear HB; have HB := n0_; have BK583 := n1_; have GW583 := n2_; have GE583 := n3_; clear n0_ n1_ n2_ n3_; clear hb hbox hg) | ((with_reducible refine gate_dst (N := 5) rfl ?_); refine box_event ?hg (N := 5) ?hd (cs := #[.int .i64 a1_0, .int .i64 a1_1]) (t := 23) ?hr ?_; (case hd => rfl); (case hg => rfl); (case hr => first | (go_simp; done) | (go_simp; rfl)); intro gb584 hg w116 hbox hb; have n0_ := Aside0.mk (blk_below (g := gb583) (o := .cells #[.int .i64 a0_0, .int .i64 a0_1] 23 (0, 0)) (by (with_reducible repeat (first | refine blk_drewN ?_ _ | refine blk_drew ?_ | refine blk_alloc ?_ _)); exact BK583.out) hb); have n1_ := Aside0.mk (below_step (by repeat (first | (with_reducible first | exact HB.out | apply below_alloc | apply pw_below_drewN | apply below_drew1 | refine below_set ?_ GE583.out) | exact HB.out)) hb); have n2_ := Aside0.mk (hbox); have n3_ := Aside0.mk ((by rw [hg]; exact (below_size (by repeat (first | (with_reducible first | exact HB.out | apply below_alloc | apply pw_below_drewN | apply below_drew1 | refine below_set ?_ GE583.out) | exact HB.out))) : w.heap.size ≤ gb584)); have n4_ := Aside0.mk ((by rw [hg]; exact (below_size (by repeat (first | (with_reducible first | exact HB.out | apply below_alloc | apply pw_below_drewN | apply below_drew1 | refine below_set ?_ GE583.out) | exact HB.out))) : w.heap.size ≤ gb584)); have n5_ := Aside0.mk ((by rw [hg]; exact Nat.ne_of_lt (blk_lt (g := gb583) (o := .cells #[.int .i64 a0_0, .int .i64 a0_1] 23 (0, 0)) (by (with_reducible repeat (first | refine blk_drewN ?_ _ | refine blk_drew ?_ | refine blk_alloc ?_ _)); exact BK583.out)) : gb583 ≠ gb584)); have n6_ := Aside0.mk ((by rw [hg]; exact Nat.ne_of_gt (blk_lt (g := gb583) (o := .cells #[.int .i64 a0_0, .int .i64 a0_1] 23 (0, 0)) (by (with_reducible repeat (first | refine blk_drewN ?_ _ | refine blk_drew ?_ | refine blk_alloc ?_ _)); exact BK583.out)) : gb584 ≠ gb583)); clear BK583; clear HB; have BK583 := n0_; have HB := n1_; have BK584 := n2_; have GW584 := n3_; have GE584 := n4_; have NB583_584 := n5_; have NB584_583 := n6_; clear n0_ n1_ n2_ n3_ n4_ n5_ n6_; clear hb hbox hg; have hnb117 := NB583_584.out; have hnc117 := NB584_583.out; have hcz118_0 : w116.cell? ⟨gb583, 0, none⟩ = some (.int .i64 a0_0) := (blk_cell BK583.out 0).trans rfl; have hcz118_1 : w116.cell? ⟨gb583, 1, none⟩ = some (.int .i64 a0_1) := (blk_cell BK583.out 1).trans rfl; have hfz118_0 := blk_frozen BK583.out 0; have hfz118_1 := blk_frozen BK583.out 1; have hcz119_0 : w116.cell? ⟨gb584, 0, none⟩ = some (.int .i64 a1_0) := (blk_cell BK584.out 0).trans rfl; have hcz119_1 : w116.cell? ⟨gb584, 1, none⟩ = some (.int .i64 a1_1) := (blk_cell BK584.out 1).trans rfl; have hfz119_0 := blk_frozen BK584.out 0; have hfz119_1 := blk_frozen BK584.out 1) | ((with_reducible refine gate_callee (f := 30) rfl ?_); refine goesL_ (some 18) rfl rfl Tryd.func30 (by kernel_rfl) rfl #[.agg #[.int .i64 a0_0, .int .i64 a0_1], .agg #[.int .i64 a1_0, .int .i64 a1_1]] rfl (by (try simp only [List.map_toArray, List.map_cons, List.map_nil]); first | done | rfl | (simp only [List.length_drop, List.length_take]; rfl)) ?_; (with_reducible refine (num_Between.calls k a0_0 a0_1 a1_0 a1_1 t585 t586 t587 _ A5.out).mono ?_); rintro e w120 ⟨rfl, hb⟩; refine ⟨_, rfl, ?_⟩; have n0_ := Aside0.mk (blk_below (g := gb583) (o := .cells #[.int .i64 a0_0, .int .i64 a0_1] 23 (0, 0)) (by (with_reducible repeat (first | refine blk_drewN ?_ _ | refine blk_drew ?_ | refine blk_alloc ?_ _)); exact BK583.out) hb); have n1_ := Aside0.mk (blk_below (g := gb584) (o := .cells #[.int .i64 a1_0, .int .i64 a1_1] 23 (0, 0)) (by (with_reducible repeat (first | refine blk_drewN ?_ _ | refine blk_drew ?_ | refine blk_alloc ?_ _)); exact BK584.out) hb); have n2_ := Aside0.mk (below_step (by repeat (first | (with_reducible first | exact HB.out | apply below_alloc | apply pw_below_drewN | apply below_drew1 | refine below_set ?_ GE583.out | refine below_set ?_ GE584.out) | exact HB.out)) hb); clear BK583; clear BK584; clear HB; have BK583 := n0_; have BK584 := n1_; have HB := n2_; clear n0_ n1_ n2_; (try clear hb); (try clear hb2); (try clear hk); (try clear hi)) | ((with_reducible refine gate_dst (N := 9) rfl ?_); refine box_event ?hg (N := 9) ?hd (cs := #[.int .i64 0, .int .i64 0]) (t := 23) ?hr ?_; (case hd => rfl); (case hg => rfl); (case hr => first | (go_simp; done) | (go_simp; rfl)); intro gb588 hg w121 hbox hb; have n0_ := Aside0.mk (blk_below (g := gb583) (o := .cells #[.int .i64 a0_0, .int .i64 a0_1] 23 (0, 0)) (by (with_reducible repeat (first | refine blk_drewN ?_ _ | refine blk_drew ?_ | refine blk_alloc ?_ _)); exact BK583.out) hb); have n1_ := Aside0.mk (blk_below (g := gb584) (o := .cells #[.int .i64 a1_0, .int .i64 a1_1] 23 (0, 0)) (by (with_reducible repeat (first | refine blk_drewN ?_ _ | refine blk_drew ?_ | refine blk_alloc ?_ _)); exact BK584.out) hb); have n2_ := Aside0.mk (below_step (by repeat (first | (with_reducible first | exact HB.out | apply below_alloc | apply pw_below_drewN | apply below_drew1 | refine below_set ?_ GE583.out | refine below_set ?_ GE584.out) | exact HB.out)) hb); have n3_ := Aside0.mk (hbox); have n4_ := Aside0.mk ((by rw [hg]; exact (below_size (by repeat (first | (with_reducible first | exact HB.out | apply below_alloc | apply pw_below_drewN | apply below_drew1 | refine below_set ?_ GE583.out | refine below_set ?_ GE584.out) | exact HB.out))) : w.heap.size ≤ gb588)); have n5_ := Aside0.mk ((by rw [hg]; exact (below_size (by repeat (first | (with_reducible first | exact HB.out | apply below_alloc | apply pw_below_drewN | apply below_drew1 | refine below_set ?_ GE583.out | refine below_set ?_ GE584.out) | exact HB.out))) : w.heap.size ≤ gb588)); have n6_ := Aside0.mk ((by rw [hg]; exact Nat.ne_of_lt (blk_lt (g := gb583) (o := .cells #[.int .i64 a0_0, .int .i64 a0_1] 23 (0, 0)) (by (with_reducible repeat (first | refine blk_drewN ?_ _ | refine blk_drew ?_ | refine blk_alloc ?_ _)); exact BK583.out)) : gb583 ≠ gb588)); have n7_ := Aside0.mk ((by rw [hg]; exact Nat.ne_of_gt (blk_lt (g := gb583) (o := .cells #[.int .i64 a0_0, .int .i64 a0_1] 23 (0, 0)) (by (with_reducible repeat (first | refine blk_drewN ?_ _ | refine blk_drew ?_ | refine blk_alloc ?_ _)); exact BK583.out)) : gb588 ≠ gb583)); have n8_ := Aside0.mk ((by rw [hg]; exact Nat.ne_of_lt (blk_lt (g := gb584) (o := .cells #[.int .i64 a1_0, .int .i64 a1_1] 23 (0, 0)) (by (with_reducible repeat (first | refine blk_drewN ?_ _ | refine blk_drew ?_ | refine blk_alloc ?_ _)); exact BK584.out)) : gb584 ≠ gb588)); have n9_ := Aside0.mk ((by rw [hg]; exact Nat.ne_of_gt (blk_lt (g := gb584) (o := .cells #[.int .i64 a1_0, .int .i64 a1_1] 23 (0, 0)) (by (with_reducible repeat (first | refine blk_drewN ?_ _ | refine blk_drew ?_ | refine blk_alloc ?_ _)); exact BK584.out)) : gb588 ≠ gb584)); clear BK583; clear BK584; clear HB; have BK583 := n0_; have BK584 := n1_; have HB := n2_; have BK588 := n3_; have GW588 := n4_; have GE588 := n5_; have NB583_588 := n6_; have NB588_583 := n7_; have NB584_588 := n8_; have NB588_584 := n9_; clear n0_ n1_ n2_ n3_ n4_ n5_ n6_ n7_ n8_ n9_; clear hb hbox hg; have hnb122 := NB588_583.out; have hnc122 := NB583_588.out; have hnb123 := NB588_584.out; have hnc123 := NB584_588.out; have hcz124_0 : w121.cell? ⟨gb588, 0, none⟩ = some (.int .i64 0) := (blk_cell BK588.out 0).trans rfl; have hcz124_1 : w121.cell? ⟨gb588, 1, none⟩ = some (.int .i64 0) := (blk_cell BK588.out 1).trans rfl; have hfz124_0 := blk_frozen BK588.out 0; have hfz124_1 := blk_frozen BK588.out 1))
        go_ret
        exact ⟨by first | rfl | (simp [errW_none, errW_some] <;> rfl) | (simp [*, errW_none, errW_some] <;> rfl), by repeat (first | (with_reducible first | exact HB.out | apply below_alloc | apply pw_below_drewN | apply below_drew1 | refine below_set ?_ GE583.out | refine below_set ?_ GE584.out | refine below_set ?_ GE588.out) | exact HB.out)⟩
      · have y0 : (t585 == 0) = false := beq_eq_false_iff_ne.mpr z0
        clear z0 c102
        go_enter Tryd.func7, Tryd.ntmps7
        go_wp2_with (first | ((with_reducible refine gate_dst (N := 4) rfl ?_); refine box_event ?hg (N := 4) ?hd (cs := #[.int .i64 a0_0, .int .i64 a0_1]) (t := 23) ?hr ?_; (case hd => rfl); (case hg => rfl); (case hr => first | (go_simp; done) | (go_simp; rfl)); intro gb583 hg w115 hbox hb; have n0_ := Aside0.mk (below_step (by repeat (first | (with_reducible first | exact HB.out | apply below_alloc | apply pw_below_drewN | apply below_drew1) | exact HB.out)) hb); have n1_ := Aside0.mk (hbox); have n2_ := Aside0.mk ((by rw [hg]; exact (below_size (by repeat (first | (with_reducible first | exact HB.out | apply below_alloc | apply pw_below_drewN | apply below_drew1) | exact HB.out))) : w.heap.size ≤ gb583)); have n3_ := Aside0.mk ((by rw [hg]; exact (below_size (by repeat (first | (with_reducible first | exact HB.out | apply below_alloc | apply pw_below_drewN | apply below_drew1) | exact HB.out))) : w.heap.size ≤ gb583)); clear HB; have HB := n0_; have BK583 := n1_; have GW583 := n2_; have GE583 := n3_; clear n0_ n1_ n2_ n3_; clear hb hbox hg) | ((with_reducible refine gate_dst (N := 5) rfl ?_); refine box_event ?hg (N := 5) ?hd (cs := #[.int .i64 a1_0, .int .i64 a1_1]) (t := 23) ?hr ?_; (case hd => rfl); (case hg => rfl); (case hr => first | (go_simp; done) | (go_simp; rfl)); intro gb584 hg w116 hbox hb; have n0_ := Aside0.mk (blk_below (g := gb583) (o := .cells #[.int .i64 a0_0, .int .i64 a0_1] 23 (0, 0)) (by (with_reducible repeat (first | refine blk_drewN ?_ _ | refine blk_drew ?_ | refine blk_alloc ?_ _)); exact BK583.out) hb); have n1_ := Aside0.mk (below_step (by repeat (first | (with_reducible first | exact HB.out | apply below_alloc | apply pw_below_drewN | apply below_drew1 | refine below_set ?_ GE583.out) | exact HB.out)) hb); have n2_ := Aside0.mk (hbox); have n3_ := Aside0.mk ((by rw [hg]; exact (below_size (by repeat (first | (with_reducible first | exact HB.out | apply below_alloc | apply pw_below_drewN | apply below_drew1 | refine below_set ?_ GE583.out) | exact HB.out))) : w.heap.size ≤ gb584)); have n4_ := Aside0.mk ((by rw [hg]; exact (below_size (by repeat (first | (with_reducible first | exact HB.out | apply below_alloc | apply pw_below_drewN | apply below_drew1 | refine below_set ?_ GE583.out) | exact HB.out))) : w.heap.size ≤ gb584)); have n5_ := Aside0.mk ((by rw [hg]; exact Nat.ne_of_lt (blk_lt (g := gb583) (o := .cells #[.int .i64 a0_0, .int .i64 a0_1] 23 (0, 0)) (by (with_reducible repeat (first | refine blk_drewN ?_ _ | refine blk_drew ?_ | refine blk_alloc ?_ _)); exact BK583.out)) : gb583 ≠ gb584)); have n6_ := Aside0.mk ((by rw [hg]; exact Nat.ne_of_gt (blk_lt (g := gb583) (o := .cells #[.int .i64 a0_0, .int .i64 a0_1] 23 (0, 0)) (by (with_reducible repeat (first | refine blk_drewN ?_ _ | refine blk_drew ?_ | refine blk_alloc ?_ _)); exact BK583.out)) : gb584 ≠ gb583)); clear BK583; clear HB; have BK583 := n0_; have HB := n1_; have BK584 := n2_; have GW584 := n3_; have GE584 := n4_; have NB583_584 := n5_; have NB584_583 := n6_; clear n0_ n1_ n2_ n3_ n4_ n5_ n6_; clear hb hbox hg; have hnb117 := NB583_584.out; have hnc117 := NB584_583.out; have hcz118_0 : w116.cell? ⟨gb583, 0, none⟩ = some (.int .i64 a0_0) := (blk_cell BK583.out 0).trans rfl; have hcz118_1 : w116.cell? ⟨gb583, 1, none⟩ = some (.int .i64 a0_1) := (blk_cell BK583.out 1).trans rfl; have hfz118_0 := blk_frozen BK583.out 0; have hfz118_1 := blk_frozen BK583.out 1; have hcz119_0 : w116.cell? ⟨gb584, 0, none⟩ = some (.int .i64 a1_0) := (blk_cell BK584.out 0).trans rfl; have hcz119_1 : w116.cell? ⟨gb584, 1, none⟩ = some (.int .i64 a1_1) := (blk_cell BK584.out 1).trans rfl; have hfz119_0 := blk_frozen BK584.out 0; have hfz119_1 := blk_frozen BK584.out 1) | ((with_reducible refine gate_callee (f := 30) rfl ?_); refine goesL_ (some 18) rfl rfl Tryd.func30 (by kernel_rfl) rfl #[.agg #[.int .i64 a0_0, .int .i64 a0_1], .agg #[.int .i64 a1_0, .int .i64 a1_1]] rfl (by (try simp only [List.map_toArray, List.map_cons, List.map_nil]); first | done | rfl | (simp only [List.length_drop, List.length_take]; rfl)) ?_; (with_reducible refine (num_Between.calls k a0_0 a0_1 a1_0 a1_1 t585 t586 t587 _ A5.out).mono ?_); rintro e w120 ⟨rfl, hb⟩; refine ⟨_, rfl, ?_⟩; have n0_ := Aside0.mk (blk_below (g := gb583) (o := .cells #[.int .i64 a0_0, .int .i64 a0_1] 23 (0, 0)) (by (with_reducible repeat (first | refine blk_drewN ?_ _ | refine blk_drew ?_ | refine blk_alloc ?_ _)); exact BK583.out) hb); have n1_ := Aside0.mk (blk_below (g := gb584) (o := .cells #[.int .i64 a1_0, .int .i64 a1_1] 23 (0, 0)) (by (with_reducible repeat (first | refine blk_drewN ?_ _ | refine blk_drew ?_ | refine blk_alloc ?_ _)); exact BK584.out) hb); have n2_ := Aside0.mk (below_step (by repeat (first | (with_reducible first | exact HB.out | apply below_alloc | apply pw_below_drewN | apply below_drew1 | refine below_set ?_ GE583.out | refine below_set ?_ GE584.out) | exact HB.out)) hb); clear BK583; clear BK584; clear HB; have BK583 := n0_; have BK584 := n1_; have HB := n2_; clear n0_ n1_ n2_; (try clear hb); (try clear hb2); (try clear hk); (try clear hi)) | ((with_reducible refine gate_dst (N := 9) rfl ?_); refine box_event ?hg (N := 9) ?hd (cs := #[.int .i64 0, .int .i64 0]) (t := 23) ?hr ?_; (case hd => rfl); (case hg => rfl); (case hr => first | (go_simp; done) | (go_simp; rfl)); intro gb588 hg w121 hbox hb; have n0_ := Aside0.mk (blk_below (g := gb583) (o := .cells #[.int .i64 a0_0, .int .i64 a0_1] 23 (0, 0)) (by (with_reducible repeat (first | refine blk_drewN ?_ _ | refine blk_drew ?_ | refine blk_alloc ?_ _)); exact BK583.out) hb); have n1_ := Aside0.mk (blk_below (g := gb584) (o := .cells #[.int .i64 a1_0, .int .i64 a1_1] 23 (0, 0)) (by (with_reducible repeat (first | refine blk_drewN ?_ _ | refine blk_drew ?_ | refine blk_alloc ?_ _)); exact BK584.out) hb); have n2_ := Aside0.mk (below_step (by repeat (first | (with_reducible first | exact HB.out | apply below_alloc | apply pw_below_drewN | apply below_drew1 | refine below_set ?_ GE583.out | refine below_set ?_ GE584.out) | exact HB.out)) hb); have n3_ := Aside0.mk (hbox); have n4_ := Aside0.mk ((by rw [hg]; exact (below_size (by repeat (first | (with_reducible first | exact HB.out | apply below_alloc | apply pw_below_drewN | apply below_drew1 | refine below_set ?_ GE583.out | refine below_set ?_ GE584.out) | exact HB.out))) : w.heap.size ≤ gb588)); have n5_ := Aside0.mk ((by rw [hg]; exact (below_size (by repeat (first | (with_reducible first | exact HB.out | apply below_alloc | apply pw_below_drewN | apply below_drew1 | refine below_set ?_ GE583.out | refine below_set ?_ GE584.out) | exact HB.out))) : w.heap.size ≤ gb588)); have n6_ := Aside0.mk ((by rw [hg]; exact Nat.ne_of_lt (blk_lt (g := gb583) (o := .cells #[.int .i64 a0_0, .int .i64 a0_1] 23 (0, 0)) (by (with_reducible repeat (first | refine blk_drewN ?_ _ | refine blk_drew ?_ | refine blk_alloc ?_ _)); exact BK583.out)) : gb583 ≠ gb588)); have n7_ := Aside0.mk ((by rw [hg]; exact Nat.ne_of_gt (blk_lt (g := gb583) (o := .cells #[.int .i64 a0_0, .int .i64 a0_1] 23 (0, 0)) (by (with_reducible repeat (first | refine blk_drewN ?_ _ | refine blk_drew ?_ | refine blk_alloc ?_ _)); exact BK583.out)) : gb588 ≠ gb583)); have n8_ := Aside0.mk ((by rw [hg]; exact Nat.ne_of_lt (blk_lt (g := gb584) (o := .cells #[.int .i64 a1_0, .int .i64 a1_1] 23 (0, 0)) (by (with_reducible repeat (first | refine blk_drewN ?_ _ | refine blk_drew ?_ | refine blk_alloc ?_ _)); exact BK584.out)) : gb584 ≠ gb588)); have n9_ := Aside0.mk ((by rw [hg]; exact Nat.ne_of_gt (blk_lt (g := gb584) (o := .cells #[.int .i64 a1_0, .int .i64 a1_1] 23 (0, 0)) (by (with_reducible repeat (first | refine blk_drewN ?_ _ | refine blk_drew ?_ | refine blk_alloc ?_ _)); exact BK584.out)) : gb588 ≠ gb584)); clear BK583; clear BK584; clear HB; have BK583 := n0_; have BK584 := n1_; have HB := n2_; have BK588 := n3_; have GW588 := n4_; have GE588 := n5_; have NB583_588 := n6_; have NB588_583 := n7_; have NB584_588 := n8_; have NB588_584 := n9_; clear n0_ n1_ n2_ n3_ n4_ n5_ n6_ n7_ n8_ n9_; clear hb hbox hg; have hnb122 := NB588_583.out; have hnc122 := NB583_588.out; have hnb123 := NB588_584.out; have hnc123 := NB584_588.out; have hcz124_0 : w121.cell? ⟨gb588, 0, none⟩ = some (.int .i64 0) := (blk_cell BK588.out 0).trans rfl; have hcz124_1 : w121.cell? ⟨gb588, 1, none⟩ = some (.int .i64 0) := (blk_cell BK588.out 1).trans rfl; have hfz124_0 := blk_frozen BK588.out 0; have hfz124_1 := blk_frozen BK588.out 1))
        go_ret
        exact ⟨by first | rfl | (simp [errW_none, errW_some] <;> rfl) | (simp [*, errW_none, errW_some] <;> rfl), by repeat (first | (with_reducible first | exact HB.out | apply below_alloc | apply pw_below_drewN | apply below_drew1 | refine below_set ?_ GE583.out | refine below_set ?_ GE584.out | refine below_set ?_ GE588.out) | exact HB.out)⟩
end Go.Proofs.YtdjnneflpkllmaaDoor.Q
