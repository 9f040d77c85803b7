/- Part 5 of the proof of NumNearest. -/
import Derived.Test.YtdjnneflpkllmaaDoorMNumNearest4

namespace Go.Proofs.YtdjnneflpkllmaaDoor.Q
open Go.RowKit Go.Proofs.YtdjnneflpkllmaaDoorW.PrintWords Go.Proofs.YtdjnneflpkllmaaDoorW.PrintLast Go.Proofs.YtdjnneflpkllmaaDoorW.PrintMore
attribute [local go_sem] max2_int min2_int max_two min_two max_three min_three max_four min_four   -- for this text's walks alone
set_option linter.unusedVariables false
set_option linter.unusedSimpArgs false
attribute [local go_sem high] eqA23
def merinolaw01_NumNearest.j0 : Nat → Int → Int → Int → Int → Int → Int → Bool → Int → Int → Option (Bool)
  | 0, _, _, _, _, _, _, _, _, _ => none
  | k + 1, x0, x1, x2, x3, x4, x12, x33, x332000, x332001 => if x33 = true then (if ((x332000 == 0 && (x332001 == 0)) == (x12 != 0)) = true then ((merinolaw01_alive.f).bind fun t332 => (some t332)) else (none)) else ((merinolaw01_off.f k x0 x1 x332000 x332001).bind fun bt333 => ((merinoref01_Of.f k x4).bind fun bt337 => ((merinoref01_Times.f k bt333.1 bt333.2 bt337.1 bt337.2).bind fun bt341 => ((merinolaw01_off.f k x0 x1 x3 x4).bind fun bt346 => ((merinoref01_Of.f k x332001).bind fun bt350 => ((merinoref01_Times.f k bt346.1 bt346.2 bt350.1 bt350.2).bind fun bt354 => ((merinoref01_Compare.f k bt341.1 bt341.2 bt354.1 bt354.2).bind fun t359 => ((num_Valid.f k x332000 x332001).bind fun t360 => (if t360 = true then (if x332001 ≤ x2 then (if t359 < 0 then ((merinolaw01_alive.f).bind fun t361 => (some t361)) else (if t359 = 0 then (if x332001 < x4 then ((merinolaw01_alive.f).bind fun t362 => (some t362)) else (if x332001 = x4 then (if x332000 ≤ x3 then ((merinolaw01_alive.f).bind fun t363 => (some t363)) else (none)) else (none))) else (none))) else (none)) else (none))))))))))
def merinolaw01_NumNearest.f (k : Nat) (a0 : Int) (a1 : Int) (a2 : Int) (a3 : Int) (a4 : Int) : Option (Bool) := (num_Best.f k a0 a1 a2).bind fun bt328 => (if bt328.2.2 = 0 then (if a4 < 1 then (merinolaw01_NumNearest.j0 k a0 a1 a2 a3 a4 bt328.2.2 true bt328.1 bt328.2.1) else (merinolaw01_NumNearest.j0 k a0 a1 a2 a3 a4 bt328.2.2 (decide (a4 > a2)) bt328.1 bt328.2.1)) else (merinolaw01_NumNearest.j0 k a0 a1 a2 a3 a4 bt328.2.2 true bt328.1 bt328.2.1))
theorem merinolaw01_NumNearest.mono_l : ∀ k, (∀ y0 y1 y2 y3 y4 y5 y6 y7 y8, LeO (merinolaw01_NumNearest.j0 k y0 y1 y2 y3 y4 y5 y6 y7 y8) (merinolaw01_NumNearest.j0 (k + 1) y0 y1 y2 y3 y4 y5 y6 y7 y8))
  | 0 => fun _ _ _ _ _ _ _ _ _ r h => by simp [merinolaw01_NumNearest.j0] at h
  | k + 1 => by
    have ih0 := merinolaw01_NumNearest.mono_l k
    · intro y0 y1 y2 y3 y4 y5 y6 y7 y8
      unfold merinolaw01_NumNearest.j0
      repeat' first
      | (with_reducible exact ih0 _ _ _ _ _ _ _ _ _)
      | (with_reducible exact merinolaw01_off.mono _ _ _ _ _)
      | (with_reducible exact merinoref01_Compare.mono _ _ _ _ _)
      | (with_reducible exact merinoref01_Of.mono _ _)
      | (with_reducible exact merinoref01_Times.mono _ _ _ _ _)
      | (with_reducible exact num_Best.mono _ _ _ _)
      | (with_reducible exact num_Valid.mono _ _ _)
      | (with_reducible exact LeO.refl _)
      | (with_reducible exact LeO.none _)
      | (with_reducible refine LeO.ite ?_ ?_)
      | (with_reducible refine LeO.bind ?_ (fun _ => ?_))
      | exact ih0 _ _ _ _ _ _ _ _ _
      | exact merinolaw01_off.mono _ _ _ _ _
      | exact merinoref01_Compare.mono _ _ _ _ _
      | exact merinoref01_Of.mono _ _
      | exact merinoref01_Times.mono _ _ _ _ _
      | exact num_Best.mono _ _ _ _
      | exact num_Valid.mono _ _ _
      | exact LeO.none _
      | refine LeO.ite ?_ ?_
      | refine LeO.bind ?_ (fun _ => ?_)
theorem merinolaw01_NumNearest.mono : ∀ a0 a1 a2 a3 a4 k, LeO (merinolaw01_NumNearest.f k a0 a1 a2 a3 a4) (merinolaw01_NumNearest.f (k + 1) a0 a1 a2 a3 a4) := by
  intro a0 a1 a2 a3 a4 k
  have ih0 := merinolaw01_NumNearest.mono_l k
  unfold merinolaw01_NumNearest.f
  repeat' first
      | (with_reducible exact ih0 _ _ _ _ _ _ _ _ _)
      | (with_reducible exact merinolaw01_off.mono _ _ _ _ _)
      | (with_reducible exact merinoref01_Compare.mono _ _ _ _ _)
      | (with_reducible exact merinoref01_Of.mono _ _)
      | (with_reducible exact merinoref01_Times.mono _ _ _ _ _)
      | (with_reducible exact num_Best.mono _ _ _ _)
      | (with_reducible exact num_Valid.mono _ _ _)
      | (with_reducible exact LeO.refl _)
      | (with_reducible exact LeO.none _)
      | (with_reducible refine LeO.ite ?_ ?_)
      | (with_reducible refine LeO.bind ?_ (fun _ => ?_))
      | exact ih0 _ _ _ _ _ _ _ _ _
      | exact merinolaw01_off.mono _ _ _ _ _
      | exact merinoref01_Compare.mono _ _ _ _ _
      | exact merinoref01_Of.mono _ _
      | exact merinoref01_Times.mono _ _ _ _ _
      | exact num_Best.mono _ _ _ _
      | exact num_Valid.mono _ _ _
      | exact LeO.none _
      | refine LeO.ite ?_ ?_
      | refine LeO.bind ?_ (fun _ => ?_)
def merinolaw01_NumNearest.T5 : Bool × List (List Nat × List Nat) := (true, [([], []), ([], []), ([], []), ([], []), ([0, 1, 2, 3], [0, 1, 2, 3]), ([], []), ([5], [5]), ([6, 4], [6]), ([4, 7, 7], [4, 7]), ([], []), ([9, 8, 8, 0, 1, 2, 3, 4, 5, 6, 7, 8, 9], [8, 9])])
def merinolaw01_NumNearest.B5 : List Nat := [0, 0, 0, 0, 15, 0, 32, 127, 255, 0, 1023]
theorem merinolaw01_NumNearest.tab5 : rtab .any (opsOf Tryd.f4 5) = merinolaw01_NumNearest.T5 := by kernel_rfl
theorem merinolaw01_NumNearest.bits5 : waitsOk merinolaw01_NumNearest.T5.2 merinolaw01_NumNearest.B5 = true := by kernel_rfl
set_option maxHeartbeats 8000000 in
set_option maxRecDepth 100000 in
theorem merinolaw01_NumNearest.calls (k : Nat) (a0 : Int) (a1 : Int) (a2 : Int) (a3 : Int) (a4 : Int) (r : Bool) (w : World) (h : merinolaw01_NumNearest.f k a0 a1 a2 a3 a4 = some r) :
    Calls Tryd.prog 4 #[.int .i64 a0, .int .i64 a1, .int .i64 a2, .int .i64 a3, .int .i64 a4] w fun e w' => e = .returned (.bool r) ∧ Below w.heap.size w w' := by
  have hu23 := Tryd.underlying23
  have hu31 := Tryd.underlying31
  have HB := Aside0.mk (Below.refl w.heap.size w)
  have H : ((num_Best.f k a0 a1 a2).bind fun bt328 => (if bt328.2.2 = 0 then (if a4 < 1 then (merinolaw01_NumNearest.j0 k a0 a1 a2 a3 a4 bt328.2.2 true bt328.1 bt328.2.1) else (merinolaw01_NumNearest.j0 k a0 a1 a2 a3 a4 bt328.2.2 (decide (a4 > a2)) bt328.1 bt328.2.1)) else (merinolaw01_NumNearest.j0 k a0 a1 a2 a3 a4 bt328.2.2 true bt328.1 bt328.2.1))) = some r := h
  clear h
  replace H := Option.bind_eq_some_iff.mp H
  obtain ⟨⟨t328, t329, t330⟩, A60, H⟩ := H
  replace H : (if t330 = 0 then (if a4 < 1 then (merinolaw01_NumNearest.j0 k a0 a1 a2 a3 a4 t330 true t328 t329) else (merinolaw01_NumNearest.j0 k a0 a1 a2 a3 a4 t330 (decide (a4 > a2)) t328 t329)) else (merinolaw01_NumNearest.j0 k a0 a1 a2 a3 a4 t330 true t328 t329)) = some r := H
  have A6 := Aside0.mk A60
  clear A60
  have HC7 := Aside0.mk H
  clear H
  go_enter Tryd.func4, Tryd.ntmps4
  go_upto_region 2 with (first | ((with_reducible refine gate_callee (f := 19) rfl ?_); refine goesL_ (some 20) rfl rfl Tryd.func19 (by kernel_rfl) rfl #[.int .i64 a0, .int .i64 a1, .int .i64 a2] rfl qe_ ?_; (with_reducible refine (num_Best.calls k a0 a1 a2 t328 t329 t330 _ A6.out).mono ?_); rintro e w8 ⟨rfl, hb⟩; refine ⟨_, rfl, ?_⟩; have n0_ := Aside0.mk (below_step (q0_ HB.out) hb); clear HB; have HB := n0_; clear n0_; (try clear hb); (try clear hb2); (try clear hk); (try clear hi)) | ((with_reducible refine gate_dst (N := 11) rfl ?_); refine box_event ?hg (N := 11) ?hd (cs := #[.int .i64 0, .int .i64 0]) (t := 23) ?hr ?_; (case hd => rfl); (case hg => rfl); (case hr => first | (go_simp; done) | (go_simp; rfl)); intro gb331 hg w9 hbox hb; have n0_ := Aside0.mk (below_step (q0_ HB.out) hb); have n1_ := Aside0.mk (hbox); have n2_ := Aside0.mk ((by rw [hg]; exact (below_size (q0_ HB.out)) : w.heap.size ≤ gb331)); have n3_ := Aside0.mk ((by rw [hg]; exact (below_size (q0_ HB.out)) : w.heap.size ≤ gb331)); clear HB; have HB := n0_; have BK331 := n1_; have GW331 := n2_; have GE331 := n3_; clear n0_ n1_ n2_ n3_; clear hb hbox hg; have hcz10_0 : w9.cell? ⟨gb331, 0, none⟩ = some (.int .i64 0) := (blk_cell BK331.out 0).trans rfl; have hcz10_1 : w9.cell? ⟨gb331, 1, none⟩ = some (.int .i64 0) := (blk_cell BK331.out 1).trans rfl; have hfz10_0 := blk_frozen BK331.out 0; have hfz10_1 := blk_frozen BK331.out 1))
  (try simp only [Act.put, List.setIfInBounds_toArray, List.set_cons_zero, List.set_cons_succ])
  go_cut [33] (fun v33 wc => ∃ (kq : Nat) (x33_6 : Bool), v33 = .bool x33_6 ∧ Aside0 (merinolaw01_NumNearest.j0 kq a0 a1 a2 a3 a4 t330 x33_6 t328 t329 = some r) ∧ Aside0 (kq ≤ k) ∧ Aside0 (wc.heap[gb331]? = some (.cells #[.int .i64 t328, .int .i64 t329] 23 (0, 0))) ∧ Aside0 (Below w.heap.size w wc))
  case first =>
    have H := HC7.out
    clear HC7
    by_cases c11 : t330 = 0
    · rw [if_pos c11] at H
      have c11b0 : (t330 == 0) = true := beq_iff_eq.mpr c11
      have c11b1 : (t330 != 0) = false := bne_eq_false_iff_eq.mpr c11
      clear c11
      (first | rw [c11b0] | (simp only [i64_w, i32_w]; rw [c11b0]) | skip)
      by_cases c12 : a4 < 1
      · rw [if_pos c12] at H
        have c12b0 : decide (a4 < 1) = true := decide_eq_true c12
        clear c12
        have H' := Aside0.mk H
        clear H
        go_wp2
        go_meet
        case rel => exact ⟨_, (true), (by first | rfl | (simp; done) | (simp [*]; done)), H', ⟨by first | omega | exact Nat.le_refl _⟩, ⟨by (with_reducible repeat (first | refine blk_drewN ?_ _ | refine blk_drew ?_ | refine blk_alloc ?_ _)); refine blk_put (cs := #[.int .i64 t328, .int .i64 0]) ?_ 1 _ rfl; (with_reducible repeat (first | refine blk_drewN ?_ _ | refine blk_drew ?_ | refine blk_alloc ?_ _)); refine blk_put (cs := #[.int .i64 0, .int .i64 0]) ?_ 0 _ rfl; (with_reducible repeat (first | refine blk_drewN ?_ _ | refine blk_drew ?_ | refine blk_alloc ?_ _)); exact BK331.out⟩, ⟨(q1_ HB.out GE331.out)⟩⟩
      · rw [if_neg c12] at H
        have c12b0 : decide (a4 < 1) = false := decide_eq_false c12
        clear c12
        have H' := Aside0.mk H
        clear H
        go_wp2
        go_meet
        case rel => exact ⟨_, (decide (a4 > a2)), (by first | rfl | (simp; done) | (simp [*]; done)), H', ⟨by first | omega | exact Nat.le_refl _⟩, ⟨by (with_reducible repeat (first | refine blk_drewN ?_ _ | refine blk_drew ?_ | refine blk_alloc ?_ _)); refine blk_put (cs := #[.int .i64 t328, .int .i64 0]) ?_ 1 _ rfl; (with_reducible repeat (first | refine blk_drewN ?_ _ | refine blk_drew ?_ | refine blk_alloc ?_ _)); refine blk_put (cs := #[.int .i64 0, .int .i64 0]) ?_ 0 _ rfl; (with_reducible repeat (first | refine blk_drewN ?_ _ | refine blk_drew ?_ | refine blk_alloc ?_ _)); exact BK331.out⟩, ⟨(q1_ HB.out GE331.out)⟩⟩
    · rw [if_neg c11] at H
      have c11b0 : (t330 == 0) = false := beq_eq_false_iff_ne.mpr c11
      have c11b1 : (t330 != 0) = true := bne_iff_ne.mpr c11
      (first | rw [c11b0] | (simp only [i64_w, i32_w]; rw [c11b0]) | skip)
      have H' := Aside0.mk H
      clear H
      go_wp2
      go_meet
      case rel => exact ⟨_, (true), (by first | rfl | (simp; done) | (simp [*]; done)), H', ⟨by first | omega | exact Nat.le_refl _⟩, ⟨by (with_reducible repeat (first | refine blk_drewN ?_ _ | refine blk_drew ?_ | refine blk_alloc ?_ _)); refine blk_put (cs := #[.int .i64 t328, .int .i64 0]) ?_ 1 _ rfl; (with_reducible repeat (first | refine blk_drewN ?_ _ | refine blk_drew ?_ | refine blk_alloc ?_ _)); refine blk_put (cs := #[.int .i64 0, .int .i64 0]) ?_ 0 _ rfl; (with_reducible repeat (first | refine blk_drewN ?_ _ | refine blk_drew ?_ | refine blk_alloc ?_ _)); exact BK331.out⟩, ⟨(q1_ HB.out GE331.out)⟩⟩
  case rest =>
    clear HC7
    try clear c1
    try clear p2
    try clear c4
    try clear c11
    try clear c11b0
    try clear c11b1
    try clear c12
    try clear c12b0
    try clear hcz10_0
    try clear hcz10_1
    try clear hfz10_0
    try clear hfz10_1
    obtain ⟨kq, x33_6, rfl, HA, HJ6, BK331, HB⟩ := hcut
    cases kq with
    | zero => exact absurd HA.out (by simp [merinolaw01_NumNearest.j0])
    | succ kj6 =>
      have H := HA.out
      clear HA
      simp only [merinolaw01_NumNearest.j0] at H
      by_cases c13 : x33_6 = true
      · subst c13
        have H1 : (if ((t328 == 0 && (t329 == 0)) == (t330 != 0)) = true then ((merinolaw01_alive.f).bind fun t332 => (some t332)) else (none)) = some r := by rw [if_pos rfl] at H; exact H
        clear H
        have H := H1
        clear H1
        by_cases c14 : ((t328 == 0 && (t329 == 0)) == (t330 != 0)) = true
        · rw [if_pos c14] at H
          have c14b0 : ((t328 == 0 && (t329 == 0)) == (t330 != 0)) = true := c14
          (try (have c14b1 : decide ((t328 == 0 && (t329 == 0)) = (t330 != 0)) = true := by simpa using c14))
          (try (have c14b2 : ((t328 == 0 && (t329 == 0)) == (t330 != 0)) = true := by simpa using c14))
          clear c14
          replace H := Option.bind_eq_some_iff.mp H
          obtain ⟨t332, A150, H⟩ := H
          replace H : (some t332) = some r := H
          have A15 := Aside0.mk A150
          clear A150
          obtain rfl := Option.some.inj H
          have hcz16_0 : wc.cell? ⟨gb331, 0, none⟩ = some (.int .i64 t328) := (blk_cell BK331.out 0).trans rfl
          have hcz16_1 : wc.cell? ⟨gb331, 1, none⟩ = some (.int .i64 t329) := (blk_cell BK331.out 1).trans rfl
          have hfz16_0 := blk_frozen BK331.out 0
          have hfz16_1 := blk_frozen BK331.out 1
          go_wp2_with (first | (go_at_call 21; (with_reducible refine (merinolaw01_alive.calls  t332 _ A15.out).mono ?_); rintro e w17 ⟨rfl, hb⟩; have n0_ := Aside0.mk (blk_below (g := gb331) (o := .cells #[.int .i64 t328, .int .i64 t329] 23 (0, 0)) (qb_ BK331.out) hb); have n1_ := Aside0.mk (below_step (q1_ HB.out GE331.out) hb); clear BK331; clear HB; have BK331 := n0_; have HB := n1_; clear n0_ n1_; (try clear hb); (try clear hb2); (try clear hk); (try clear hi)))
          go_ret
          exact ⟨by first | rfl | (simp [errW_none, errW_some] <;> rfl) | (simp [*, errW_none, errW_some] <;> rfl), (q1_ HB.out GE331.out)⟩
        · rw [if_neg c14] at H
          exact absurd H (by simp)
      · replace c13 := Bool.eq_false_iff.mpr c13
        subst c13
        have H1 : ((merinolaw01_off.f kj6 a0 a1 t328 t329).bind fun bt333 => ((merinoref01_Of.f kj6 a4).bind fun bt337 => ((merinoref01_Times.f kj6 bt333.1 bt333.2 bt337.1 bt337.2).bind fun bt341 => ((merinolaw01_off.f kj6 a0 a1 a3 a4).bind fun bt346 => ((merinoref01_Of.f kj6 t329).bind fun bt350 => ((merinoref01_Times.f kj6 bt346.1 bt346.2 bt350.1 bt350.2).bind fun bt354 => ((merinoref01_Compare.f kj6 bt341.1 bt341.2 bt354.1 bt354.2).bind fun t359 => ((num_Valid.f kj6 t328 t329).bind fun t360 => (if t360 = true then (if t329 ≤ a2 then (if t359 < 0 then ((merinolaw01_alive.f).bind fun t361 => (some t361)) else (if t359 = 0 then (if t329 < a4 then ((merinolaw01_alive.f).bind fun t362 => (some t362)) else (if t329 = a4 then (if t328 ≤ a3 then ((merinolaw01_alive.f).bind fun t363 => (some t363)) else (none)) else (none))) else (none))) else (none)) else (none)))))))))) = some r := by rw [if_neg (show ¬ (false = true) by decide)] at H; exact H
        clear H
        have H := H1
        clear H1
        replace H := Option.bind_eq_some_iff.mp H
        obtain ⟨⟨t333, t334⟩, A180, H⟩ := H
        replace H : ((merinoref01_Of.f kj6 a4).bind fun bt337 => ((merinoref01_Times.f kj6 t333 t334 bt337.1 bt337.2).bind fun bt341 => ((merinolaw01_off.f kj6 a0 a1 a3 a4).bind fun bt346 => ((merinoref01_Of.f kj6 t329).bind fun bt350 => ((merinoref01_Times.f kj6 bt346.1 bt346.2 bt350.1 bt350.2).bind fun bt354 => ((merinoref01_Compare.f kj6 bt341.1 bt341.2 bt354.1 bt354.2).bind fun t359 => ((num_Valid.f kj6 t328 t329).bind fun t360 => (if t360 = true then (if t329 ≤ a2 then (if t359 < 0 then ((merinolaw01_alive.f).bind fun t361 => (some t361)) else (if t359 = 0 then (if t329 < a4 then ((merinolaw01_alive.f).bind fun t362 => (some t362)) else (if t329 = a4 then (if t328 ≤ a3 then ((merinolaw01_alive.f).bind fun t363 => (some t363)) else (none)) else (none))) else (none))) else (none)) else (none))))))))) = some r := H
        have A18 := Aside0.mk A180
        clear A180
        replace H := Option.bind_eq_some_iff.mp H
        obtain ⟨⟨t337, t338⟩, A190, H⟩ := H
        replace H : ((merinoref01_Times.f kj6 t333 t334 t337 t338).bind fun bt341 => ((merinolaw01_off.f kj6 a0 a1 a3 a4).bind fun bt346 => ((merinoref01_Of.f kj6 t329).bind fun bt350 => ((merinoref01_Times.f kj6 bt346.1 bt346.2 bt350.1 bt350.2).bind fun bt354 => ((merinoref01_Compare.f kj6 bt341.1 bt341.2 bt354.1 bt354.2).bind fun t359 => ((num_Valid.f kj6 t328 t329).bind fun t360 => (if t360 = true then (if t329 ≤ a2 then (if t359 < 0 then ((merinolaw01_alive.f).bind fun t361 => (some t361)) else (if t359 = 0 then (if t329 < a4 then ((merinolaw01_alive.f).bind fun t362 => (some t362)) else (if t329 = a4 then (if t328 ≤ a3 then ((merinolaw01_alive.f).bind fun t363 => (some t363)) else (none)) else (none))) else (none))) else (none)) else (none)))))))) = some r := H
        have A19 := Aside0.mk A190
        clear A190
        replace H := Option.bind_eq_some_iff.mp H
        obtain ⟨⟨t341, t342⟩, A200, H⟩ := H
        replace H : ((merinolaw01_off.f kj6 a0 a1 a3 a4).bind fun bt346 => ((merinoref01_Of.f kj6 t329).bind fun bt350 => ((merinoref01_Times.f kj6 bt346.1 bt346.2 bt350.1 bt350.2).bind fun bt354 => ((merinoref01_Compare.f kj6 t341 t342 bt354.1 bt354.2).bind fun t359 => ((num_Valid.f kj6 t328 t329).bind fun t360 => (if t360 = true then (if t329 ≤ a2 then (if t359 < 0 then ((merinolaw01_alive.f).bind fun t361 => (some t361)) else (if t359 = 0 then (if t329 < a4 then ((merinolaw01_alive.f).bind fun t362 => (some t362)) else (if t329 = a4 then (if t328 ≤ a3 then ((merinolaw01_alive.f).bind fun t363 => (some t363)) else (none)) else (none))) else (none))) else (none)) else (none))))))) = some r := H
        have A20 := Aside0.mk A200
        clear A200
        replace H := Option.bind_eq_some_iff.mp H
        obtain ⟨⟨t346, t347⟩, A210, H⟩ := H
        replace H : ((merinoref01_Of.f kj6 t329).bind fun bt350 => ((merinoref01_Times.f kj6 t346 t347 bt350.1 bt350.2).bind fun bt354 => ((merinoref01_Compare.f kj6 t341 t342 bt354.1 bt354.2).bind fun t359 => ((num_Valid.f kj6 t328 t329).bind fun t360 => (if t360 = true then (if t329 ≤ a2 then (if t359 < 0 then ((merinolaw01_alive.f).bind fun t361 => (some t361)) else (if t359 = 0 then (if t329 < a4 then ((merinolaw01_alive.f).bind fun t362 => (some t362)) else (if t329 = a4 then (if t328 ≤ a3 then ((merinolaw01_alive.f).bind fun t363 => (some t363)) else (none)) else (none))) else (none))) else (none)) else (none)))))) = some r := H
        have A21 := Aside0.mk A210
        clear A210
        replace H := Option.bind_eq_some_iff.mp H
        obtain ⟨⟨t350, t351⟩, A220, H⟩ := H
        replace H : ((merinoref01_Times.f kj6 t346 t347 t350 t351).bind fun bt354 => ((merinoref01_Compare.f kj6 t341 t342 bt354.1 bt354.2).bind fun t359 => ((num_Valid.f kj6 t328 t329).bind fun t360 => (if t360 = true then (if t329 ≤ a2 then (if t359 < 0 then ((merinolaw01_alive.f).bind fun t361 => (some t361)) else (if t359 = 0 then (if t329 < a4 then ((merinolaw01_alive.f).bind fun t362 => (some t362)) else (if t329 = a4 then (if t328 ≤ a3 then ((merinolaw01_alive.f).bind fun t363 => (some t363)) else (none)) else (none))) else (none))) else (none)) else (none))))) = some r := H
        have A22 := Aside0.mk A220
        clear A220
        replace H := Option.bind_eq_some_iff.mp H
        obtain ⟨⟨t354, t355⟩, A230, H⟩ := H
        replace H : ((merinoref01_Compare.f kj6 t341 t342 t354 t355).bind fun t359 => ((num_Valid.f kj6 t328 t329).bind fun t360 => (if t360 = true then (if t329 ≤ a2 then (if t359 < 0 then ((merinolaw01_alive.f).bind fun t361 => (some t361)) else (if t359 = 0 then (if t329 < a4 then ((merinolaw01_alive.f).bind fun t362 => (some t362)) else (if t329 = a4 then (if t328 ≤ a3 then ((merinolaw01_alive.f).bind fun t363 => (some t363)) else (none)) else (none))) else (none))) else (none)) else (none)))) = some r := H
        have A23 := Aside0.mk A230
        clear A230
        replace H := Option.bind_eq_some_iff.mp H
        obtain ⟨t359, A240, H⟩ := H
        replace H : ((num_Valid.f kj6 t328 t329).bind fun t360 => (if t360 = true then (if t329 ≤ a2 then (if t359 < 0 then ((merinolaw01_alive.f).bind fun t361 => (some t361)) else (if t359 = 0 then (if t329 < a4 then ((merinolaw01_alive.f).bind fun t362 => (some t362)) else (if t329 = a4 then (if t328 ≤ a3 then ((merinolaw01_alive.f).bind fun t363 => (some t363)) else (none)) else (none))) else (none))) else (none)) else (none))) = some r := H
        have A24 := Aside0.mk A240
        clear A240
        replace H := Option.bind_eq_some_iff.mp H
        obtain ⟨t360, A250, H⟩ := H
        replace H : (if t360 = true then (if t329 ≤ a2 then (if t359 < 0 then ((merinolaw01_alive.f).bind fun t361 => (some t361)) else (if t359 = 0 then (if t329 < a4 then ((merinolaw01_alive.f).bind fun t362 => (some t362)) else (if t329 = a4 then (if t328 ≤ a3 then ((merinolaw01_alive.f).bind fun t363 => (some t363)) else (none)) else (none))) else (none))) else (none)) else (none)) = some r := H
        have A25 := Aside0.mk A250
        clear A250
        by_cases c26 : t360 = true
        · subst c26
          have H1 : (if t329 ≤ a2 then (if t359 < 0 then ((merinolaw01_alive.f).bind fun t361 => (some t361)) else (if t359 = 0 then (if t329 < a4 then ((merinolaw01_alive.f).bind fun t362 => (some t362)) else (if t329 = a4 then (if t328 ≤ a3 then ((merinolaw01_alive.f).bind fun t363 => (some t363)) else (none)) else (none))) else (none))) else (none)) = some r := by rw [if_pos rfl] at H; exact H
          clear H
          have H := H1
          clear H1
          by_cases c27 : t329 ≤ a2
          · rw [if_pos c27] at H
            have c27b0 : decide (t329 ≤ a2) = true := decide_eq_true c27
            clear c27
            by_cases c28 : t359 < 0
            · rw [if_pos c28] at H
              have c28b0 : decide (t359 < 0) = true := decide_eq_true c28
              clear c28
              replace H := Option.bind_eq_some_iff.mp H
              obtain ⟨t361, A290, H⟩ := H
              replace H : (some t361) = some r := H
              have A29 := Aside0.mk A290
              clear A290
              obtain rfl := Option.some.inj H
              have hcz30_0 : wc.cell? ⟨gb331, 0, none⟩ = some (.int .i64 t328) := (blk_cell BK331.out 0).trans rfl
              have hcz30_1 : wc.cell? ⟨gb331, 1, none⟩ = some (.int .i64 t329) := (blk_cell BK331.out 1).trans rfl
              have hfz30_0 := blk_frozen BK331.out 0
              have hfz30_1 := blk_frozen BK331.out 1
              try go_wp2_with (first | ((with_reducible refine gate_callee (f := 23) rfl ?_); refine goesL_ (some 49) rfl rfl Tryd.func23 (by kernel_rfl) rfl #[.int .i64 a0, .int .i64 a1, .int .i64 t328, .int .i64 t329] rfl qe_ ?_; (with_reducible refine (merinolaw01_off.calls kj6 a0 a1 t328 t329 t333 t334 _ A18.out).mono ?_); rintro e w31 ⟨v335, rfl, ho0, hb⟩; refine ⟨_, rfl, ?_⟩; have n0_ := Aside0.mk (Kd.R_lower ho0 (below_size (q1_ HB.out GE331.out))); have n1_ := Aside0.mk (blk_below (g := gb331) (o := .cells #[.int .i64 t328, .int .i64 t329] 23 (0, 0)) (qb_ BK331.out) hb); have n2_ := Aside0.mk (below_step (q1_ HB.out GE331.out) hb); clear BK331; clear HB; have HO336 := n0_; have BK331 := n1_; have HB := n2_; clear n0_ n1_ n2_; (try clear hb); (try clear hb2); (try clear hk); (try clear hi); (try clear ho0)) | ((with_reducible refine gate_callee (f := 24) rfl ?_); refine goesL_ (some 51) rfl rfl Tryd.func24 (by kernel_rfl) rfl #[.int .i64 a4] rfl qe_ ?_; (with_reducible refine (merinoref01_Of.calls kj6 a4 t337 t338 _ A19.out).mono ?_); rintro e w32 ⟨v339, rfl, ho0, hb⟩; refine ⟨_, rfl, ?_⟩; have n0_ := Aside0.mk (Kd.R_elder' (qr_ HO336.out) (Kd.R_base ho0) hb); have n1_ := Aside0.mk (Kd.R_lower (Kd.R_new' ho0 (Kd.R_lt (qr_ HO336.out))) (below_size (q1_ HB.out GE331.out))); have n2_ := Aside0.mk (blk_below (g := gb331) (o := .cells #[.int .i64 t328, .int .i64 t329] 23 (0, 0)) (qb_ BK331.out) hb); have n3_ := Aside0.mk (below_step (q1_ HB.out GE331.out) hb); clear HO336; clear BK331; clear HB; have HO336 := n0_; have HO340 := n1_; have BK331 := n2_; have HB := n3_; clear n0_ n1_ n2_ n3_; (try clear hb); (try clear hb2); (try clear hk); (try clear hi); (try clear ho0); obtain ⟨Ao33, co33, eo33⟩ := Kd.R_slice HO336.out; subst eo33; obtain ⟨Ao34, co34, eo34⟩ := Kd.R_slice HO340.out; subst eo34) | ((with_reducible refine gate_callee (f := 22) rfl ?_); refine goesL_ (some 52) rfl rfl Tryd.func22 (by kernel_rfl) rfl #[.agg #[.bool t333, .slice Ao33 t334.length co33], .agg #[.bool t337, .slice Ao34 t338.length co34]] rfl qe_ ?_; (with_reducible refine (merinoref01_Times.calls kj6 t333 _ _ t334 t337 _ _ t338 t341 t342 _ ?side1 ?side2 ?side3 ?side4 A20.out).mono ?_); (case side1 => exact qc_ (Kd.R_reads' HO336.out).2.2); (case side2 => exact (Kd.R_reads' HO336.out).2.1); (case side3 => exact qc_ (Kd.R_reads' HO340.out).2.2); (case side4 => exact (Kd.R_reads' HO340.out).2.1); rintro e w35 ⟨v343, rfl, ho0, hb⟩; refine ⟨_, rfl, ?_⟩; have n0_ := Aside0.mk (Kd.R_elder' (qr_ HO336.out) (Kd.R_base ho0) hb); have n1_ := Aside0.mk (Kd.R_elder' (qr_ HO340.out) (Kd.R_base ho0) hb); have n2_ := Aside0.mk (Kd.R_lower (Kd.R_new' (Kd.R_new' ho0 (Kd.R_lt (qr_ HO336.out))) (Kd.R_lt (qr_ HO340.out))) (below_size (q1_ HB.out GE331.out))); have n3_ := Aside0.mk (blk_below (g := gb331) (o := .cells #[.int .i64 t328, .int .i64 t329] 23 (0, 0)) (qb_ BK331.out) hb); have n4_ := Aside0.mk (below_step (q1_ HB.out GE331.out) hb); clear HO336; clear HO340; clear BK331; clear HB; have HO336 := n0_; have HO340 := n1_; have HO344 := n2_; have BK331 := n3_; have HB := n4_; clear n0_ n1_ n2_ n3_ n4_; (try clear hb); (try clear hb2); (try clear hk); (try clear hi); (try clear ho0)) | ((with_reducible refine gate_dst (N := 13) rfl ?_); refine box_event ?hg (N := 13) ?hd (cs := #[.bool false, .slice none 0 0]) (t := 31) ?hr ?_; (case hd => rfl); (case hg => rfl); (case hr => first | (go_simp; done) | (go_simp; rfl)); intro gb345 hg w36 hbox hb; have n0_ := Aside0.mk (Kd.R_below (qr_ HO336.out) hb); have n1_ := Aside0.mk (Kd.R_below (qr_ HO340.out) hb); have n2_ := Aside0.mk (Kd.R_below (qr_ HO344.out) hb); have n3_ := Aside0.mk (blk_below (g := gb331) (o := .cells #[.int .i64 t328, .int .i64 t329] 23 (0, 0)) (qb_ BK331.out) hb); have n4_ := Aside0.mk (below_step (q1_ HB.out GE331.out) hb); have n5_ := Aside0.mk (hbox); have n6_ := Aside0.mk ((by rw [hg]; exact (below_size (q1_ HB.out GE331.out)) : w.heap.size ≤ gb345)); have n7_ := Aside0.mk ((by rw [hg]; exact (below_size (q1_ HB.out GE331.out)) : w.heap.size ≤ gb345)); have n8_ := Aside0.mk ((by rw [hg]; exact Nat.ne_of_lt (blk_lt (g := gb331) (o := .cells #[.int .i64 t328, .int .i64 t329] 23 (0, 0)) (qb_ BK331.out)) : gb331 ≠ gb345)); have n9_ := Aside0.mk ((by rw [hg]; exact Nat.ne_of_gt (blk_lt (g := gb331) (o := .cells #[.int .i64 t328, .int .i64 t329] 23 (0, 0)) (qb_ BK331.out)) : gb345 ≠ gb331)); clear HO336; clear HO340; clear HO344; clear BK331; clear HB; have HO336 := n0_; have HO340 := n1_; have HO344 := n2_; have BK331 := n3_; have HB := n4_; have BK345 := n5_; have GW345 := n6_; have GE345 := n7_; have NB331_345 := n8_; have NB345_331 := n9_; clear n0_ n1_ n2_ n3_ n4_ n5_ n6_ n7_ n8_ n9_; clear hb hbox hg; have hnb37 := NB345_331.out; have hnc37 := NB331_345.out; have hcz38_0 : w36.cell? ⟨gb345, 0, none⟩ = some (.bool false) := (blk_cell BK345.out 0).trans rfl; have hcz38_1 : w36.cell? ⟨gb345, 1, none⟩ = some (.slice none 0 0) := (blk_cell BK345.out 1).trans rfl; have hfz38_0 := blk_frozen BK345.out 0; have hfz38_1 := blk_frozen BK345.out 1; obtain ⟨Ao39, co39, eo39⟩ := Kd.R_slice HO344.out; subst eo39))
              have n0_ : Aside0 (Kd.R (Kd.int .i64) 3 ((w36.setCell ⟨gb345, 0, none⟩ (.bool t341)).setCell ⟨gb345, 1, none⟩ (.slice Ao39 t342.length co39)) w.heap.size (fun k_ => some k_ ≠ (.slice Ao34 t338.length co34 : Value).ownBlock ∧ some k_ ≠ (.slice Ao39 t342.length co39 : Value).ownBlock) (.slice Ao33 t334.length co33) t334) := ⟨by (with_reducible repeat (first | apply Kd.R_alloc | apply Kd.R_drewN | apply Kd.R_drew)); exact Kd.R_mono (Kd.R_far (p := ⟨gb345, 1, none⟩) (Kd.R_far (p := ⟨gb345, 0, none⟩) (Kd.R_types HO336.out BK345.out (by decide)) (fun _ hk => hk.2) (.bool t341)) (fun _ hk => hk.2) (.slice Ao39 t342.length co39)) (fun _ hk => ⟨hk.1.1.2, hk.1.2⟩)⟩
              have n1_ : Aside0 (Kd.R (Kd.int .i64) 3 ((w36.setCell ⟨gb345, 0, none⟩ (.bool t341)).setCell ⟨gb345, 1, none⟩ (.slice Ao39 t342.length co39)) w.heap.size (fun k_ => some k_ ≠ (.slice Ao33 t334.length co33 : Value).ownBlock ∧ some k_ ≠ (.slice Ao39 t342.length co39 : Value).ownBlock) (.slice Ao34 t338.length co34) t338) := ⟨by (with_reducible repeat (first | apply Kd.R_alloc | apply Kd.R_drewN | apply Kd.R_drew)); exact Kd.R_mono (Kd.R_far (p := ⟨gb345, 1, none⟩) (Kd.R_far (p := ⟨gb345, 0, none⟩) (Kd.R_types HO340.out BK345.out (by decide)) (fun _ hk => hk.2) (.bool t341)) (fun _ hk => hk.2) (.slice Ao39 t342.length co39)) (fun _ hk => ⟨hk.1.1.2, hk.1.2⟩)⟩
              have n2_ : Aside0 (Kd.R (Kd.int .i64) 3 ((w36.setCell ⟨gb345, 0, none⟩ (.bool t341)).setCell ⟨gb345, 1, none⟩ (.slice Ao39 t342.length co39)) w.heap.size (fun k_ => some k_ ≠ (.slice Ao33 t334.length co33 : Value).ownBlock ∧ some k_ ≠ (.slice Ao34 t338.length co34 : Value).ownBlock) (.slice Ao39 t342.length co39) t342) := ⟨by (with_reducible repeat (first | apply Kd.R_alloc | apply Kd.R_drewN | apply Kd.R_drew)); exact Kd.R_mono (Kd.R_far (p := ⟨gb345, 1, none⟩) (Kd.R_far (p := ⟨gb345, 0, none⟩) (Kd.R_types HO344.out BK345.out (by decide)) (fun _ hk => hk.2) (.bool t341)) (fun _ hk => hk.2) (.slice Ao39 t342.length co39)) (fun _ hk => ⟨hk.1.1.2, hk.1.2⟩)⟩
              have n3_ : Aside0 (((w36.setCell ⟨gb345, 0, none⟩ (.bool t341)).setCell ⟨gb345, 1, none⟩ (.slice Ao39 t342.length co39)).heap[gb331]? = some (.cells #[.int .i64 t328, .int .i64 t329] 23 (0, 0))) := ⟨by (with_reducible repeat (first | refine blk_drewN ?_ _ | refine blk_drew ?_ | refine blk_alloc ?_ _)); refine blk_far ?_ NB331_345.out _; (with_reducible repeat (first | refine blk_drewN ?_ _ | refine blk_drew ?_ | refine blk_alloc ?_ _)); refine blk_far ?_ NB331_345.out _; (with_reducible repeat (first | refine blk_drewN ?_ _ | refine blk_drew ?_ | refine blk_alloc ?_ _)); exact BK331.out⟩
              have n4_ : Aside0 (((w36.setCell ⟨gb345, 0, none⟩ (.bool t341)).setCell ⟨gb345, 1, none⟩ (.slice Ao39 t342.length co39)).heap[gb345]? = some (.cells #[.bool t341, .slice Ao39 t342.length co39] 31 (0, 0))) := ⟨by (with_reducible repeat (first | refine blk_drewN ?_ _ | refine blk_drew ?_ | refine blk_alloc ?_ _)); refine blk_put (cs := #[.bool t341, .slice none 0 0]) ?_ 1 _ rfl; (with_reducible repeat (first | refine blk_drewN ?_ _ | refine blk_drew ?_ | refine blk_alloc ?_ _)); refine blk_put (cs := #[.bool false, .slice none 0 0]) ?_ 0 _ rfl; (with_reducible repeat (first | refine blk_drewN ?_ _ | refine blk_drew ?_ | refine blk_alloc ?_ _)); exact BK345.out⟩
              have n5_ : Aside0 (Below w.heap.size w ((w36.setCell ⟨gb345, 0, none⟩ (.bool t341)).setCell ⟨gb345, 1, none⟩ (.slice Ao39 t342.length co39))) := ⟨(q2_ HB.out GE331.out GE345.out)⟩
              (try clear HO336)
              (try clear HO340)
              (try clear HO344)
              (try clear BK331)
              (try clear BK345)
              (try clear HB)
              generalize ((w36.setCell ⟨gb345, 0, none⟩ (.bool t341)).setCell ⟨gb345, 1, none⟩ (.slice Ao39 t342.length co39)) = w40 at n0_ n1_ n2_ n3_ n4_ n5_ ⊢
              have HO336 := n0_
              have HO340 := n1_
              have HO344 := n2_
              have BK331 := n3_
              have BK345 := n4_
              have HB := n5_
              clear n0_ n1_ n2_ n3_ n4_ n5_
              have n0_ := Aside0.mk (Kd.R_drew HO336.out)
              have n1_ := Aside0.mk (Kd.R_drew HO340.out)
              have n2_ := Aside0.mk (Kd.R_drew HO344.out)
              have n3_ := Aside0.mk (blk_drew BK331.out)
              have n4_ := Aside0.mk (blk_drew BK345.out)
              have n5_ := Aside0.mk (below_drew1 HB.out)
              clear HO336
              clear HO340
              clear HO344
              clear BK331
              clear BK345
              clear HB
              have HO336 := n0_
              have HO340 := n1_
              have HO344 := n2_
              have BK331 := n3_
              have BK345 := n4_
              have HB := n5_
              clear n0_ n1_ n2_ n3_ n4_ n5_
              refine start_ (n := 11) (S := fun w' => w'.cell? ⟨gb331, 0, none⟩ = some (.int .i64 t328) ∧ w'.cell? ⟨gb331, 1, none⟩ = some (.int .i64 t329)) (ds := []) #[false, false, false, false, false, false, false, false, false, false, false] (by kernel_rfl) rfl rfl ⟨(blk_cell BK331.out 0).trans rfl, (blk_cell BK331.out 1).trans rfl⟩ (fun hHeld => ?_); refine with_tabW merinolaw01_NumNearest.tab5 merinolaw01_NumNearest.bits5 (fun HT_ HW_ => ?_)
              generalize w40.drew = w41 at HO336 HO340 HO344 BK331 BK345 HB hHeld ⊢
              refine pure_ (i := 0) (N := some 53) (v := ?_) (a' := ?_) #[true, false, false, false, false, false, false, false, false, false, false] rfl rfl (any_of HT_.out (by kernel_rfl)) (fun _ _ _ h => h) (Or.inl ⟨by rfl, ?_⟩) ?_ ?_
              rotate_left
              · intro w'
                go_simp
                with_reducible rfl
              rotate_left
              · simp only [Act.put, List.setIfInBounds_toArray, List.set_cons_zero, List.set_cons_succ, i64_w, i32_w]
                rfl
              refine pure_ (i := 1) (N := some 54) (v := ?_) (a' := ?_) #[true, true, false, false, false, false, false, false, false, false, false] rfl rfl (any_of HT_.out (by kernel_rfl)) (fun _ _ _ h => h) (Or.inl ⟨by rfl, ?_⟩) ?_ ?_
              rotate_left
              · intro w'
                go_simp
                with_reducible rfl
              rotate_left
              · simp only [Act.put, List.setIfInBounds_toArray, List.set_cons_zero, List.set_cons_succ, i64_w, i32_w]
                rfl
              refine pure_ (i := 2) (N := some 55) (v := ?_) (a' := ?_) #[true, true, true, false, false, false, false, false, false, false, false] rfl rfl (any_of HT_.out (by kernel_rfl)) (fun _ _ _ h => h) (Or.inl ⟨by rfl, ?_⟩) ?_ ?_
              rotate_left
              · intro w'
                go_simp
                with_reducible rfl
              rotate_left
              · simp only [Act.put, List.setIfInBounds_toArray, List.set_cons_zero, List.set_cons_succ, i64_w, i32_w]
                rfl
              refine pure_ (i := 3) (N := some 56) (v := ?_) (a' := ?_) #[true, true, true, true, false, false, false, false, false, false, false] rfl rfl (any_of HT_.out (by kernel_rfl)) (fun _ _ _ h => h) (Or.inl ⟨by rfl, ?_⟩) ?_ ?_
              rotate_left
              · intro w'
                go_simp
                with_reducible rfl
              rotate_left
              · simp only [Act.put, List.setIfInBounds_toArray, List.set_cons_zero, List.set_cons_succ, i64_w, i32_w]
                rfl
              refine pure_ (i := 5) (N := some 58) (v := ?_) (a' := ?_) #[true, true, true, true, false, true, false, false, false, false, false] rfl rfl (any_of HT_.out (by kernel_rfl)) (fun _ _ _ h => h) (Or.inl ⟨by rfl, ?_⟩) ?_ ?_
              rotate_left
              · intro w'
                go_simp
                with_reducible rfl
              rotate_left
              · simp only [Act.put, List.setIfInBounds_toArray, List.set_cons_zero, List.set_cons_succ, i64_w, i32_w]
                rfl
              refine take_ (i := 6) (N := some 59) (v := ?_) (a' := ?_) #[true, true, true, true, false, true, true, false, false, false, false] rfl rfl (take_ofW HT_.out HW_.out (by kernel_rfl)) (fun _ _ _ h => h) (Or.inl ⟨by rfl, ?_⟩) hHeld ?_ ?_
              rotate_left
              · rintro w' ⟨s0, s1⟩
                go_simp
                with_reducible rfl
              rotate_left
              · simp only [Act.put, List.setIfInBounds_toArray, List.set_cons_zero, List.set_cons_succ, i64_w, i32_w]
                rfl
              refine join_ (σ := Value × Value × Value × Nat) 1 #[true, true, true, true, true, true, true, true, true, true, false] (fun s_ => [(57, .agg #[.bool t346, s_.1]), (60, .agg #[.bool t350, s_.2.1]), (61, .agg #[.bool t354, s_.2.2.1]), (14, .pointer (some ⟨s_.2.2.2, 0, none⟩))]) (fun s_ w' => (w'.cell? ⟨gb331, 0, none⟩ = some (.int .i64 t328) ∧ w'.cell? ⟨gb331, 1, none⟩ = some (.int .i64 t329)) ∧ (Kd.R (Kd.int .i64) 3 w' w.heap.size (fun k_ => some k_ ≠ (.slice Ao34 t338.length co34 : Value).ownBlock ∧ some k_ ≠ (.slice Ao39 t342.length co39 : Value).ownBlock ∧ some k_ ≠ (s_.1 : Value).ownBlock ∧ some k_ ≠ (s_.2.1 : Value).ownBlock ∧ some k_ ≠ (s_.2.2.1 : Value).ownBlock) (.slice Ao33 t334.length co33) t334) ∧ (Kd.R (Kd.int .i64) 3 w' w.heap.size (fun k_ => some k_ ≠ (.slice Ao33 t334.length co33 : Value).ownBlock ∧ some k_ ≠ (.slice Ao39 t342.length co39 : Value).ownBlock ∧ some k_ ≠ (s_.1 : Value).ownBlock ∧ some k_ ≠ (s_.2.1 : Value).ownBlock ∧ some k_ ≠ (s_.2.2.1 : Value).ownBlock) (.slice Ao34 t338.length co34) t338) ∧ (Kd.R (Kd.int .i64) 3 w' w.heap.size (fun k_ => some k_ ≠ (.slice Ao33 t334.length co33 : Value).ownBlock ∧ some k_ ≠ (.slice Ao34 t338.length co34 : Value).ownBlock ∧ some k_ ≠ (s_.1 : Value).ownBlock ∧ some k_ ≠ (s_.2.1 : Value).ownBlock ∧ some k_ ≠ (s_.2.2.1 : Value).ownBlock) (.slice Ao39 t342.length co39) t342) ∧ (Kd.R (Kd.int .i64) 3 w' w.heap.size (fun k_ => some k_ ≠ (.slice Ao33 t334.length co33 : Value).ownBlock ∧ some k_ ≠ (.slice Ao34 t338.length co34 : Value).ownBlock ∧ some k_ ≠ (.slice Ao39 t342.length co39 : Value).ownBlock ∧ some k_ ≠ (s_.2.1 : Value).ownBlock ∧ some k_ ≠ (s_.2.2.1 : Value).ownBlock) s_.1 t347) ∧ (Kd.R (Kd.int .i64) 3 w' w.heap.size (fun k_ => some k_ ≠ (.slice Ao33 t334.length co33 : Value).ownBlock ∧ some k_ ≠ (.slice Ao34 t338.length co34 : Value).ownBlock ∧ some k_ ≠ (.slice Ao39 t342.length co39 : Value).ownBlock ∧ some k_ ≠ (s_.1 : Value).ownBlock ∧ some k_ ≠ (s_.2.2.1 : Value).ownBlock) s_.2.1 t351) ∧ (Kd.R (Kd.int .i64) 3 w' w.heap.size (fun k_ => some k_ ≠ (.slice Ao33 t334.length co33 : Value).ownBlock ∧ some k_ ≠ (.slice Ao34 t338.length co34 : Value).ownBlock ∧ some k_ ≠ (.slice Ao39 t342.length co39 : Value).ownBlock ∧ some k_ ≠ (s_.1 : Value).ownBlock ∧ some k_ ≠ (s_.2.1 : Value).ownBlock) s_.2.2.1 t355) ∧ (w'.heap[gb331]? = some (.cells #[.int .i64 t328, .int .i64 t329] 23 (0, 0))) ∧ (w'.heap[gb345]? = some (.cells #[.bool t341, .slice Ao39 t342.length co39] 31 (0, 0))) ∧ (w'.heap[s_.2.2.2]? = some (.cells #[.bool false, .slice none 0 0] 31 (0, 0))) ∧ (w.heap.size ≤ s_.2.2.2) ∧ (w.heap.size ≤ s_.2.2.2) ∧ (gb331 ≠ s_.2.2.2) ∧ (s_.2.2.2 ≠ gb331) ∧ (gb345 ≠ s_.2.2.2) ∧ (s_.2.2.2 ≠ gb345) ∧ (Below w.heap.size w w')) ?_ ?_
              rotate_left
              · intro hCont
                refine two_ (i := 4) (j := 9) (Ni := some 57) (Nj := some 14) #[true, true, true, true, true, true, true, false, false, false, false] #[true, true, true, true, false, true, true, false, false, true, false] rfl rfl rfl rfl (two_of HT_.out (by kernel_rfl)) (by decide) (by decide) (fun K hK => ?_) (fun K hK => ?_)
                · skip
                  refine goes_ Tryd.func23 (by kernel_rfl) rfl #[.int .i64 a0, .int .i64 a1, .int .i64 a3, .int .i64 a4] (by rfl) rfl rfl qe_ ?_
                  with_reducible refine (merinolaw01_off.calls kj6 a0 a1 a3 a4 t346 t347 _ A21.out).mono ?_
                  rintro e w42 ⟨v348, rfl, ho0, hb⟩
                  refine ⟨_, rfl, ?_⟩
                  have n0_ := Aside0.mk (Kd.R_elder' (qr_ HO336.out) (Kd.R_base ho0) hb)
                  have n1_ := Aside0.mk (Kd.R_elder' (qr_ HO340.out) (Kd.R_base ho0) hb)
                  have n2_ := Aside0.mk (Kd.R_elder' (qr_ HO344.out) (Kd.R_base ho0) hb)
                  have n3_ := Aside0.mk (Kd.R_lower (Kd.R_new' (Kd.R_new' (Kd.R_new' ho0 (Kd.R_lt (qr_ HO336.out))) (Kd.R_lt (qr_ HO340.out))) (Kd.R_lt (qr_ HO344.out))) (below_size (q2_ HB.out GE331.out GE345.out)))
                  have n4_ := Aside0.mk (blk_below (g := gb331) (o := .cells #[.int .i64 t328, .int .i64 t329] 23 (0, 0)) (qb_ BK331.out) hb)
                  have n5_ := Aside0.mk (blk_below (g := gb345) (o := .cells #[.bool t341, .slice Ao39 t342.length co39] 31 (0, 0)) (qb_ BK345.out) hb)
                  have n6_ := Aside0.mk (below_step (q2_ HB.out GE331.out GE345.out) hb)
                  clear HO336
                  clear HO340
                  clear HO344
                  clear BK331
                  clear BK345
                  clear HB
                  have HO336 := n0_
                  have HO340 := n1_
                  have HO344 := n2_
                  have HO349 := n3_
                  have BK331 := n4_
                  have BK345 := n5_
                  have HB := n6_
                  clear n0_ n1_ n2_ n3_ n4_ n5_ n6_
                  (try clear hb)
                  (try clear hb2)
                  (try clear hk)
                  (try clear hi)
                  (try clear ho0)
                  refine hK.out _ _ ⟨(blk_cell BK331.out 0).trans rfl, (blk_cell BK331.out 1).trans rfl⟩ (fun hHeld => ?_)
                  clear hK K
                  refine norm_ (a' := ?_) ?_ ?_
                  rotate_left
                  · show Act.put _ (some 57) _ = _
                    simp only [Act.put, List.setIfInBounds_toArray, List.set_cons_zero, List.set_cons_succ, i64_w, i32_w]
                    rfl
                  refine two_ (i := 7) (j := 9) (Ni := some 60) (Nj := some 14) #[true, true, true, true, true, true, true, true, false, false, false] #[true, true, true, true, true, true, true, false, false, true, false] rfl rfl rfl rfl (two_of HT_.out (by kernel_rfl)) (by decide) (by decide) (fun K hK => ?_) (fun K hK => ?_)
                  · skip
                    refine goes_ Tryd.func24 (by kernel_rfl) rfl #[.int .i64 t329] (by rfl) rfl rfl qe_ ?_
                    with_reducible refine (merinoref01_Of.calls kj6 t329 t350 t351 _ A22.out).mono ?_
                    rintro e w43 ⟨v352, rfl, ho0, hb⟩
                    refine ⟨_, rfl, ?_⟩
                    have n0_ := Aside0.mk (Kd.R_elder' (qr_ HO336.out) (Kd.R_base ho0) hb)
                    have n1_ := Aside0.mk (Kd.R_elder' (qr_ HO340.out) (Kd.R_base ho0) hb)
                    have n2_ := Aside0.mk (Kd.R_elder' (qr_ HO344.out) (Kd.R_base ho0) hb)
                    have n3_ := Aside0.mk (Kd.R_elder' (qr_ HO349.out) (Kd.R_base ho0) hb)
                    have n4_ := Aside0.mk (Kd.R_lower (Kd.R_new' (Kd.R_new' (Kd.R_new' (Kd.R_new' ho0 (Kd.R_lt (qr_ HO336.out))) (Kd.R_lt (qr_ HO340.out))) (Kd.R_lt (qr_ HO344.out))) (Kd.R_lt (qr_ HO349.out))) (below_size (q2_ HB.out GE331.out GE345.out)))
                    have n5_ := Aside0.mk (blk_below (g := gb331) (o := .cells #[.int .i64 t328, .int .i64 t329] 23 (0, 0)) (qb_ BK331.out) hb)
                    have n6_ := Aside0.mk (blk_below (g := gb345) (o := .cells #[.bool t341, .slice Ao39 t342.length co39] 31 (0, 0)) (qb_ BK345.out) hb)
                    have n7_ := Aside0.mk (below_step (q2_ HB.out GE331.out GE345.out) hb)
                    clear HO336
                    clear HO340
                    clear HO344
                    clear HO349
                    clear BK331
                    clear BK345
                    clear HB
                    have HO336 := n0_
                    have HO340 := n1_
                    have HO344 := n2_
                    have HO349 := n3_
                    have HO353 := n4_
                    have BK331 := n5_
                    have BK345 := n6_
                    have HB := n7_
                    clear n0_ n1_ n2_ n3_ n4_ n5_ n6_ n7_
                    (try clear hb)
                    (try clear hb2)
                    (try clear hk)
                    (try clear hi)
                    (try clear ho0)
                    obtain ⟨Ao44, co44, eo44⟩ := Kd.R_slice HO349.out
                    (first | subst eo44 | (injection eo44 with f1_ f2_ f3_; have f4_ := f1_.symm; have f5_ := f3_.symm; clear f1_ f2_ f3_; subst f4_; subst f5_))
                    obtain ⟨Ao45, co45, eo45⟩ := Kd.R_slice HO353.out
                    (first | subst eo45 | (injection eo45 with f1_ f2_ f3_; have f4_ := f1_.symm; have f5_ := f3_.symm; clear f1_ f2_ f3_; subst f4_; subst f5_))
                    refine hK.out _ _ ⟨(blk_cell BK331.out 0).trans rfl, (blk_cell BK331.out 1).trans rfl⟩ (fun hHeld => ?_)
                    clear hK K
                    refine norm_ (a' := ?_) ?_ ?_
                    rotate_left
                    · show Act.put _ (some 60) _ = _
                      simp only [Act.put, List.setIfInBounds_toArray, List.set_cons_zero, List.set_cons_succ, i64_w, i32_w]
                      rfl
                    refine two_ (i := 8) (j := 9) (Ni := some 61) (Nj := some 14) #[true, true, true, true, true, true, true, true, true, false, false] #[true, true, true, true, true, true, true, true, false, true, false] rfl rfl rfl rfl (two_of HT_.out (by kernel_rfl)) (by decide) (by decide) (fun K hK => ?_) (fun K hK => ?_)
                    · skip
                      refine goes_ Tryd.func22 (by kernel_rfl) rfl #[.agg #[.bool t346, .slice Ao44 t347.length co44], .agg #[.bool t350, .slice Ao45 t351.length co45]] (by rfl) rfl rfl qe_ ?_
                      with_reducible refine (merinoref01_Times.calls kj6 t346 _ _ t347 t350 _ _ t351 t354 t355 _ ?side1 ?side2 ?side3 ?side4 A23.out).mono ?_
                      (case side1 => exact qc_ (Kd.R_reads' HO349.out).2.2)
                      (case side2 => exact (Kd.R_reads' HO349.out).2.1)
                      (case side3 => exact qc_ (Kd.R_reads' HO353.out).2.2)
                      (case side4 => exact (Kd.R_reads' HO353.out).2.1)
                      rintro e w46 ⟨v356, rfl, ho0, hb⟩
                      refine ⟨_, rfl, ?_⟩
                      have n0_ := Aside0.mk (Kd.R_elder' (qr_ HO336.out) (Kd.R_base ho0) hb)
                      have n1_ := Aside0.mk (Kd.R_elder' (qr_ HO340.out) (Kd.R_base ho0) hb)
                      have n2_ := Aside0.mk (Kd.R_elder' (qr_ HO344.out) (Kd.R_base ho0) hb)
                      have n3_ := Aside0.mk (Kd.R_elder' (qr_ HO349.out) (Kd.R_base ho0) hb)
                      have n4_ := Aside0.mk (Kd.R_elder' (qr_ HO353.out) (Kd.R_base ho0) hb)
                      have n5_ := Aside0.mk (Kd.R_lower (Kd.R_new' (Kd.R_new' (Kd.R_new' (Kd.R_new' (Kd.R_new' ho0 (Kd.R_lt (qr_ HO336.out))) (Kd.R_lt (qr_ HO340.out))) (Kd.R_lt (qr_ HO344.out))) (Kd.R_lt (qr_ HO349.out))) (Kd.R_lt (qr_ HO353.out))) (below_size (q2_ HB.out GE331.out GE345.out)))
                      have n6_ := Aside0.mk (blk_below (g := gb331) (o := .cells #[.int .i64 t328, .int .i64 t329] 23 (0, 0)) (qb_ BK331.out) hb)
                      have n7_ := Aside0.mk (blk_below (g := gb345) (o := .cells #[.bool t341, .slice Ao39 t342.length co39] 31 (0, 0)) (qb_ BK345.out) hb)
                      have n8_ := Aside0.mk (below_step (q2_ HB.out GE331.out GE345.out) hb)
                      clear HO336
                      clear HO340
                      clear HO344
                      clear HO349
                      clear HO353
                      clear BK331
                      clear BK345
                      clear HB
                      have HO336 := n0_
                      have HO340 := n1_
                      have HO344 := n2_
                      have HO349 := n3_
                      have HO353 := n4_
                      have HO357 := n5_
                      have BK331 := n6_
                      have BK345 := n7_
                      have HB := n8_
                      clear n0_ n1_ n2_ n3_ n4_ n5_ n6_ n7_ n8_
                      (try clear hb)
                      (try clear hb2)
                      (try clear hk)
                      (try clear hi)
                      (try clear ho0)
                      refine hK.out _ _ ⟨(blk_cell BK331.out 0).trans rfl, (blk_cell BK331.out 1).trans rfl⟩ (fun hHeld => ?_)
                      clear hK K
                      refine norm_ (a' := ?_) ?_ ?_
                      rotate_left
                      · show Act.put _ (some 61) _ = _
                        simp only [Act.put, List.setIfInBounds_toArray, List.set_cons_zero, List.set_cons_succ, i64_w, i32_w]
                        rfl
                      refine one_ (i := 9) (N := some 14) #[true, true, true, true, true, true, true, true, true, true, false] rfl rfl (one_of HT_.out (by kernel_rfl)) (by decide) (fun K hK => ?_)
                      refine box_step ?hg (N := 14) ?hd (cs := #[.bool false, .slice none 0 0]) (t := 31) ?hr ?_; (case hd => rfl); (case hg => rfl); (case hr => first | (go_simp; done) | (go_simp; rfl))
                      intro gb358 hg w47 hbox hb
                      have n0_ := Aside0.mk (Kd.R_below (qr_ HO336.out) hb)
                      have n1_ := Aside0.mk (Kd.R_below (qr_ HO340.out) hb)
                      have n2_ := Aside0.mk (Kd.R_below (qr_ HO344.out) hb)
                      have n3_ := Aside0.mk (Kd.R_below (qr_ HO349.out) hb)
                      have n4_ := Aside0.mk (Kd.R_below (qr_ HO353.out) hb)
                      have n5_ := Aside0.mk (Kd.R_below (qr_ HO357.out) hb)
                      have n6_ := Aside0.mk (blk_below (g := gb331) (o := .cells #[.int .i64 t328, .int .i64 t329] 23 (0, 0)) (qb_ BK331.out) hb)
                      have n7_ := Aside0.mk (blk_below (g := gb345) (o := .cells #[.bool t341, .slice Ao39 t342.length co39] 31 (0, 0)) (qb_ BK345.out) hb)
                      have n8_ := Aside0.mk (below_step (q2_ HB.out GE331.out GE345.out) hb)
                      have n9_ := Aside0.mk (hbox)
                      have n10_ := Aside0.mk ((by rw [hg]; exact (below_size (q2_ HB.out GE331.out GE345.out)) : w.heap.size ≤ gb358))
                      have n11_ := Aside0.mk ((by rw [hg]; exact (below_size (q2_ HB.out GE331.out GE345.out)) : w.heap.size ≤ gb358))
                      have n12_ := Aside0.mk ((by rw [hg]; exact Nat.ne_of_lt (blk_lt (g := gb331) (o := .cells #[.int .i64 t328, .int .i64 t329] 23 (0, 0)) (qb_ BK331.out)) : gb331 ≠ gb358))
                      have n13_ := Aside0.mk ((by rw [hg]; exact Nat.ne_of_gt (blk_lt (g := gb331) (o := .cells #[.int .i64 t328, .int .i64 t329] 23 (0, 0)) (qb_ BK331.out)) : gb358 ≠ gb331))
                      have n14_ := Aside0.mk ((by rw [hg]; exact Nat.ne_of_lt (blk_lt (g := gb345) (o := .cells #[.bool t341, .slice Ao39 t342.length co39] 31 (0, 0)) (qb_ BK345.out)) : gb345 ≠ gb358))
                      have n15_ := Aside0.mk ((by rw [hg]; exact Nat.ne_of_gt (blk_lt (g := gb345) (o := .cells #[.bool t341, .slice Ao39 t342.length co39] 31 (0, 0)) (qb_ BK345.out)) : gb358 ≠ gb345))
                      clear HO336
                      clear HO340
                      clear HO344
                      clear HO349
                      clear HO353
                      clear HO357
                      clear BK331
                      clear BK345
                      clear HB
                      have HO336 := n0_
                      have HO340 := n1_
                      have HO344 := n2_
                      have HO349 := n3_
                      have HO353 := n4_
                      have HO357 := n5_
                      have BK331 := n6_
                      have BK345 := n7_
                      have HB := n8_
                      have BK358 := n9_
                      have GW358 := n10_
                      have GE358 := n11_
                      have NB331_358 := n12_
                      have NB358_331 := n13_
                      have NB345_358 := n14_
                      have NB358_345 := n15_
                      clear n0_ n1_ n2_ n3_ n4_ n5_ n6_ n7_ n8_ n9_ n10_ n11_ n12_ n13_ n14_ n15_
                      clear hb hbox hg
                      refine hK.out _ _ ⟨(blk_cell BK331.out 0).trans rfl, (blk_cell BK331.out 1).trans rfl⟩ (fun hHeld => ?_)
                      clear hK K
                      refine norm_ (a' := ?_) ?_ ?_
                      rotate_left
                      · show Act.put _ (some 14) _ = _
                        simp only [Act.put, List.setIfInBounds_toArray, List.set_cons_zero, List.set_cons_succ, i64_w, i32_w]
                        rfl
                      exact norm_ (by simp only [putAll, Act.put, List.setIfInBounds_toArray, List.set_cons_zero, List.set_cons_succ]) (hCont (.slice Ao44 t347.length co44, .slice Ao45 t351.length co45, v356, gb358) _ ⟨hHeld, (by (with_reducible repeat (first | apply Kd.R_alloc | apply Kd.R_drewN | apply Kd.R_drew)); exact Kd.R_mono HO336.out (fun _ hk => ⟨hk.1.1.1.1, ⟨hk.1.1.1.2, ⟨hk.1.1.2, ⟨hk.1.2, hk.2⟩⟩⟩⟩)), (by (with_reducible repeat (first | apply Kd.R_alloc | apply Kd.R_drewN | apply Kd.R_drew)); exact Kd.R_mono HO340.out (fun _ hk => ⟨hk.1.1.1.1, ⟨hk.1.1.1.2, ⟨hk.1.1.2, ⟨hk.1.2, hk.2⟩⟩⟩⟩)), (by (with_reducible repeat (first | apply Kd.R_alloc | apply Kd.R_drewN | apply Kd.R_drew)); exact Kd.R_mono HO344.out (fun _ hk => ⟨hk.1.1.1.1, ⟨hk.1.1.1.2, ⟨hk.1.1.2, ⟨hk.1.2, hk.2⟩⟩⟩⟩)), (by (with_reducible repeat (first | apply Kd.R_alloc | apply Kd.R_drewN | apply Kd.R_drew)); exact Kd.R_mono HO349.out (fun _ hk => ⟨hk.1.1.1.1.2, ⟨hk.1.1.1.2, ⟨hk.1.1.2, ⟨hk.1.2, hk.2⟩⟩⟩⟩)), (by (with_reducible repeat (first | apply Kd.R_alloc | apply Kd.R_drewN | apply Kd.R_drew)); exact Kd.R_mono HO353.out (fun _ hk => ⟨hk.1.1.1.1.2, ⟨hk.1.1.1.2, ⟨hk.1.1.2, ⟨hk.1.2, hk.2⟩⟩⟩⟩)), (by (with_reducible repeat (first | apply Kd.R_alloc | apply Kd.R_drewN | apply Kd.R_drew)); exact Kd.R_mono HO357.out (fun _ hk => ⟨hk.1.1.1.1.2, ⟨hk.1.1.1.2, ⟨hk.1.1.2, ⟨hk.1.2, hk.2⟩⟩⟩⟩)), (qb_ BK331.out), (qb_ BK345.out), (qb_ BK358.out), GW358.out, GE358.out, NB331_358.out, NB358_331.out, NB345_358.out, NB358_345.out, (q3_ HB.out GE331.out GE345.out GE358.out)⟩)
                    · skip
                      refine box_step ?hg (N := 14) ?hd (cs := #[.bool false, .slice none 0 0]) (t := 31) ?hr ?_; (case hd => rfl); (case hg => rfl); (case hr => first | (go_simp; done) | (go_simp; rfl))
                      intro gb358 hg w44 hbox hb
                      have n0_ := Aside0.mk (Kd.R_below (qr_ HO336.out) hb)
                      have n1_ := Aside0.mk (Kd.R_below (qr_ HO340.out) hb)
                      have n2_ := Aside0.mk (Kd.R_below (qr_ HO344.out) hb)
                      have n3_ := Aside0.mk (Kd.R_below (qr_ HO349.out) hb)
                      have n4_ := Aside0.mk (Kd.R_below (qr_ HO353.out) hb)
                      have n5_ := Aside0.mk (blk_below (g := gb331) (o := .cells #[.int .i64 t328, .int .i64 t329] 23 (0, 0)) (qb_ BK331.out) hb)
                      have n6_ := Aside0.mk (blk_below (g := gb345) (o := .cells #[.bool t341, .slice Ao39 t342.length co39] 31 (0, 0)) (qb_ BK345.out) hb)
                      have n7_ := Aside0.mk (below_step (q2_ HB.out GE331.out GE345.out) hb)
                      have n8_ := Aside0.mk (hbox)
                      have n9_ := Aside0.mk ((by rw [hg]; exact (below_size (q2_ HB.out GE331.out GE345.out)) : w.heap.size ≤ gb358))
                      have n10_ := Aside0.mk ((by rw [hg]; exact (below_size (q2_ HB.out GE331.out GE345.out)) : w.heap.size ≤ gb358))
                      have n11_ := Aside0.mk ((by rw [hg]; exact Nat.ne_of_lt (blk_lt (g := gb331) (o := .cells #[.int .i64 t328, .int .i64 t329] 23 (0, 0)) (qb_ BK331.out)) : gb331 ≠ gb358))
                      have n12_ := Aside0.mk ((by rw [hg]; exact Nat.ne_of_gt (blk_lt (g := gb331) (o := .cells #[.int .i64 t328, .int .i64 t329] 23 (0, 0)) (qb_ BK331.out)) : gb358 ≠ gb331))
                      have n13_ := Aside0.mk ((by rw [hg]; exact Nat.ne_of_lt (blk_lt (g := gb345) (o := .cells #[.bool t341, .slice Ao39 t342.length co39] 31 (0, 0)) (qb_ BK345.out)) : gb345 ≠ gb358))
                      have n14_ := Aside0.mk ((by rw [hg]; exact Nat.ne_of_gt (blk_lt (g := gb345) (o := .cells #[.bool t341, .slice Ao39 t342.length co39] 31 (0, 0)) (qb_ BK345.out)) : gb358 ≠ gb345))
                      clear HO336
                      clear HO340
                      clear HO344
                      clear HO349
                      clear HO353
                      clear BK331
                      clear BK345
                      clear HB
                      have HO336 := n0_
                      have HO340 := n1_
                      have HO344 := n2_
                      have HO349 := n3_
                      have HO353 := n4_
                      have BK331 := n5_
                      have BK345 := n6_
                      have HB := n7_
                      have BK358 := n8_
                      have GW358 := n9_
                      have GE358 := n10_
                      have NB331_358 := n11_
                      have NB358_331 := n12_
                      have NB345_358 := n13_
                      have NB358_345 := n14_
                      clear n0_ n1_ n2_ n3_ n4_ n5_ n6_ n7_ n8_ n9_ n10_ n11_ n12_ n13_ n14_
                      clear hb hbox hg
                      obtain ⟨Ao45, co45, eo45⟩ := Kd.R_slice HO349.out
                      (first | subst eo45 | (injection eo45 with f1_ f2_ f3_; have f4_ := f1_.symm; have f5_ := f3_.symm; clear f1_ f2_ f3_; subst f4_; subst f5_))
                      obtain ⟨Ao46, co46, eo46⟩ := Kd.R_slice HO353.out
                      (first | subst eo46 | (injection eo46 with f1_ f2_ f3_; have f4_ := f1_.symm; have f5_ := f3_.symm; clear f1_ f2_ f3_; subst f4_; subst f5_))
                      refine hK.out _ _ ⟨(blk_cell BK331.out 0).trans rfl, (blk_cell BK331.out 1).trans rfl⟩ (fun hHeld => ?_)
                      clear hK K
                      refine norm_ (a' := ?_) ?_ ?_
                      rotate_left
                      · show Act.put _ (some 14) _ = _
                        simp only [Act.put, List.setIfInBounds_toArray, List.set_cons_zero, List.set_cons_succ, i64_w, i32_w]
                        rfl
                      refine one_ (i := 8) (N := some 61) #[true, true, true, true, true, true, true, true, true, true, false] rfl rfl (one_of HT_.out (by kernel_rfl)) (by decide) (fun K hK => ?_)
                      refine goes_ Tryd.func22 (by kernel_rfl) rfl #[.agg #[.bool t346, .slice Ao45 t347.length co45], .agg #[.bool t350, .slice Ao46 t351.length co46]] (by rfl) rfl rfl qe_ ?_
                      with_reducible refine (merinoref01_Times.calls kj6 t346 _ _ t347 t350 _ _ t351 t354 t355 _ ?side1 ?side2 ?side3 ?side4 A23.out).mono ?_
                      (case side1 => exact qc_ (Kd.R_reads' HO349.out).2.2)
                      (case side2 => exact (Kd.R_reads' HO349.out).2.1)
                      (case side3 => exact qc_ (Kd.R_reads' HO353.out).2.2)
                      (case side4 => exact (Kd.R_reads' HO353.out).2.1)
                      rintro e w47 ⟨v356, rfl, ho0, hb⟩
                      refine ⟨_, rfl, ?_⟩
                      have n0_ := Aside0.mk (Kd.R_elder' (qr_ HO336.out) (Kd.R_base ho0) hb)
                      have n1_ := Aside0.mk (Kd.R_elder' (qr_ HO340.out) (Kd.R_base ho0) hb)
                      have n2_ := Aside0.mk (Kd.R_elder' (qr_ HO344.out) (Kd.R_base ho0) hb)
                      have n3_ := Aside0.mk (Kd.R_elder' (qr_ HO349.out) (Kd.R_base ho0) hb)
                      have n4_ := Aside0.mk (Kd.R_elder' (qr_ HO353.out) (Kd.R_base ho0) hb)
                      have n5_ := Aside0.mk (Kd.R_lower (Kd.R_new' (Kd.R_new' (Kd.R_new' (Kd.R_new' (Kd.R_new' ho0 (Kd.R_lt (qr_ HO336.out))) (Kd.R_lt (qr_ HO340.out))) (Kd.R_lt (qr_ HO344.out))) (Kd.R_lt (qr_ HO349.out))) (Kd.R_lt (qr_ HO353.out))) (below_size (q3_ HB.out GE331.out GE345.out GE358.out)))
                      have n6_ := Aside0.mk (blk_below (g := gb331) (o := .cells #[.int .i64 t328, .int .i64 t329] 23 (0, 0)) (qb_ BK331.out) hb)
                      have n7_ := Aside0.mk (blk_below (g := gb345) (o := .cells #[.bool t341, .slice Ao39 t342.length co39] 31 (0, 0)) (qb_ BK345.out) hb)
                      have n8_ := Aside0.mk (blk_below (g := gb358) (o := .cells #[.bool false, .slice none 0 0] 31 (0, 0)) (qb_ BK358.out) hb)
                      have n9_ := Aside0.mk (below_step (q3_ HB.out GE331.out GE345.out GE358.out) hb)
                      clear HO336
                      clear HO340
                      clear HO344
                      clear HO349
                      clear HO353
                      clear BK331
                      clear BK345
                      clear BK358
                      clear HB
                      have HO336 := n0_
                      have HO340 := n1_
                      have HO344 := n2_
                      have HO349 := n3_
                      have HO353 := n4_
                      have HO357 := n5_
                      have BK331 := n6_
                      have BK345 := n7_
                      have BK358 := n8_
                      have HB := n9_
                      clear n0_ n1_ n2_ n3_ n4_ n5_ n6_ n7_ n8_ n9_
                      (try clear hb)
                      (try clear hb2)
                      (try clear hk)
                      (try clear hi)
                      (try clear ho0)
                      refine hK.out _ _ ⟨(blk_cell BK331.out 0).trans rfl, (blk_cell BK331.out 1).trans rfl⟩ (fun hHeld => ?_)
                      clear hK K
                      refine norm_ (a' := ?_) ?_ ?_
                      rotate_left
                      · show Act.put _ (some 61) _ = _
                        simp only [Act.put, List.setIfInBounds_toArray, List.set_cons_zero, List.set_cons_succ, i64_w, i32_w]
                        rfl
                      exact norm_ (by simp only [putAll, Act.put, List.setIfInBounds_toArray, List.set_cons_zero, List.set_cons_succ]) (hCont (.slice Ao45 t347.length co45, .slice Ao46 t351.length co46, v356, gb358) _ ⟨hHeld, (by (with_reducible repeat (first | apply Kd.R_alloc | apply Kd.R_drewN | apply Kd.R_drew)); exact Kd.R_mono HO336.out (fun _ hk => ⟨hk.1.1.1.1, ⟨hk.1.1.1.2, ⟨hk.1.1.2, ⟨hk.1.2, hk.2⟩⟩⟩⟩)), (by (with_reducible repeat (first | apply Kd.R_alloc | apply Kd.R_drewN | apply Kd.R_drew)); exact Kd.R_mono HO340.out (fun _ hk => ⟨hk.1.1.1.1, ⟨hk.1.1.1.2, ⟨hk.1.1.2, ⟨hk.1.2, hk.2⟩⟩⟩⟩)), (by (with_reducible repeat (first | apply Kd.R_alloc | apply Kd.R_drewN | apply Kd.R_drew)); exact Kd.R_mono HO344.out (fun _ hk => ⟨hk.1.1.1.1, ⟨hk.1.1.1.2, ⟨hk.1.1.2, ⟨hk.1.2, hk.2⟩⟩⟩⟩)), (by (with_reducible repeat (first | apply Kd.R_alloc | apply Kd.R_drewN | apply Kd.R_drew)); exact Kd.R_mono HO349.out (fun _ hk => ⟨hk.1.1.1.1.2, ⟨hk.1.1.1.2, ⟨hk.1.1.2, ⟨hk.1.2, hk.2⟩⟩⟩⟩)), (by (with_reducible repeat (first | apply Kd.R_alloc | apply Kd.R_drewN | apply Kd.R_drew)); exact Kd.R_mono HO353.out (fun _ hk => ⟨hk.1.1.1.1.2, ⟨hk.1.1.1.2, ⟨hk.1.1.2, ⟨hk.1.2, hk.2⟩⟩⟩⟩)), (by (with_reducible repeat (first | apply Kd.R_alloc | apply Kd.R_drewN | apply Kd.R_drew)); exact Kd.R_mono HO357.out (fun _ hk => ⟨hk.1.1.1.1.2, ⟨hk.1.1.1.2, ⟨hk.1.1.2, ⟨hk.1.2, hk.2⟩⟩⟩⟩)), (qb_ BK331.out), (qb_ BK345.out), (qb_ BK358.out), GW358.out, GE358.out, NB331_358.out, NB358_331.out, NB345_358.out, NB358_345.out, (q3_ HB.out GE331.out GE345.out GE358.out)⟩)
                  · skip
                    refine box_step ?hg (N := 14) ?hd (cs := #[.bool false, .slice none 0 0]) (t := 31) ?hr ?_; (case hd => rfl); (case hg => rfl); (case hr => first | (go_simp; done) | (go_simp; rfl))
                    intro gb358 hg w43 hbox hb
                    have n0_ := Aside0.mk (Kd.R_below (qr_ HO336.out) hb)
                    have n1_ := Aside0.mk (Kd.R_below (qr_ HO340.out) hb)
                    have n2_ := Aside0.mk (Kd.R_below (qr_ HO344.out) hb)
                    have n3_ := Aside0.mk (Kd.R_below (qr_ HO349.out) hb)
                    have n4_ := Aside0.mk (blk_below (g := gb331) (o := .cells #[.int .i64 t328, .int .i64 t329] 23 (0, 0)) (qb_ BK331.out) hb)
                    have n5_ := Aside0.mk (blk_below (g := gb345) (o := .cells #[.bool t341, .slice Ao39 t342.length co39] 31 (0, 0)) (qb_ BK345.out) hb)
                    have n6_ := Aside0.mk (below_step (q2_ HB.out GE331.out GE345.out) hb)
                    have n7_ := Aside0.mk (hbox)
                    have n8_ := Aside0.mk ((by rw [hg]; exact (below_size (q2_ HB.out GE331.out GE345.out)) : w.heap.size ≤ gb358))
                    have n9_ := Aside0.mk ((by rw [hg]; exact (below_size (q2_ HB.out GE331.out GE345.out)) : w.heap.size ≤ gb358))
                    have n10_ := Aside0.mk ((by rw [hg]; exact Nat.ne_of_lt (blk_lt (g := gb331) (o := .cells #[.int .i64 t328, .int .i64 t329] 23 (0, 0)) (qb_ BK331.out)) : gb331 ≠ gb358))
                    have n11_ := Aside0.mk ((by rw [hg]; exact Nat.ne_of_gt (blk_lt (g := gb331) (o := .cells #[.int .i64 t328, .int .i64 t329] 23 (0, 0)) (qb_ BK331.out)) : gb358 ≠ gb331))
                    have n12_ := Aside0.mk ((by rw [hg]; exact Nat.ne_of_lt (blk_lt (g := gb345) (o := .cells #[.bool t341, .slice Ao39 t342.length co39] 31 (0, 0)) (qb_ BK345.out)) : gb345 ≠ gb358))
                    have n13_ := Aside0.mk ((by rw [hg]; exact Nat.ne_of_gt (blk_lt (g := gb345) (o := .cells #[.bool t341, .slice Ao39 t342.length co39] 31 (0, 0)) (qb_ BK345.out)) : gb358 ≠ gb345))
                    clear HO336
                    clear HO340
                    clear HO344
                    clear HO349
                    clear BK331
                    clear BK345
                    clear HB
                    have HO336 := n0_
                    have HO340 := n1_
                    have HO344 := n2_
                    have HO349 := n3_
                    have BK331 := n4_
                    have BK345 := n5_
                    have HB := n6_
                    have BK358 := n7_
                    have GW358 := n8_
                    have GE358 := n9_
                    have NB331_358 := n10_
                    have NB358_331 := n11_
                    have NB345_358 := n12_
                    have NB358_345 := n13_
                    clear n0_ n1_ n2_ n3_ n4_ n5_ n6_ n7_ n8_ n9_ n10_ n11_ n12_ n13_
                    clear hb hbox hg
                    refine hK.out _ _ ⟨(blk_cell BK331.out 0).trans rfl, (blk_cell BK331.out 1).trans rfl⟩ (fun hHeld => ?_)
                    clear hK K
                    refine norm_ (a' := ?_) ?_ ?_
                    rotate_left
                    · show Act.put _ (some 14) _ = _
                      simp only [Act.put, List.setIfInBounds_toArray, List.set_cons_zero, List.set_cons_succ, i64_w, i32_w]
                      rfl
                    refine one_ (i := 7) (N := some 60) #[true, true, true, true, true, true, true, true, false, true, false] rfl rfl (one_of HT_.out (by kernel_rfl)) (by decide) (fun K hK => ?_)
                    refine goes_ Tryd.func24 (by kernel_rfl) rfl #[.int .i64 t329] (by rfl) rfl rfl qe_ ?_
                    with_reducible refine (merinoref01_Of.calls kj6 t329 t350 t351 _ A22.out).mono ?_
                    rintro e w44 ⟨v352, rfl, ho0, hb⟩
                    refine ⟨_, rfl, ?_⟩
                    have n0_ := Aside0.mk (Kd.R_elder' (qr_ HO336.out) (Kd.R_base ho0) hb)
                    have n1_ := Aside0.mk (Kd.R_elder' (qr_ HO340.out) (Kd.R_base ho0) hb)
                    have n2_ := Aside0.mk (Kd.R_elder' (qr_ HO344.out) (Kd.R_base ho0) hb)
                    have n3_ := Aside0.mk (Kd.R_elder' (qr_ HO349.out) (Kd.R_base ho0) hb)
                    have n4_ := Aside0.mk (Kd.R_lower (Kd.R_new' (Kd.R_new' (Kd.R_new' (Kd.R_new' ho0 (Kd.R_lt (qr_ HO336.out))) (Kd.R_lt (qr_ HO340.out))) (Kd.R_lt (qr_ HO344.out))) (Kd.R_lt (qr_ HO349.out))) (below_size (q3_ HB.out GE331.out GE345.out GE358.out)))
                    have n5_ := Aside0.mk (blk_below (g := gb331) (o := .cells #[.int .i64 t328, .int .i64 t329] 23 (0, 0)) (qb_ BK331.out) hb)
                    have n6_ := Aside0.mk (blk_below (g := gb345) (o := .cells #[.bool t341, .slice Ao39 t342.length co39] 31 (0, 0)) (qb_ BK345.out) hb)
                    have n7_ := Aside0.mk (blk_below (g := gb358) (o := .cells #[.bool false, .slice none 0 0] 31 (0, 0)) (qb_ BK358.out) hb)
                    have n8_ := Aside0.mk (below_step (q3_ HB.out GE331.out GE345.out GE358.out) hb)
                    clear HO336
                    clear HO340
                    clear HO344
                    clear HO349
                    clear BK331
                    clear BK345
                    clear BK358
                    clear HB
                    have HO336 := n0_
                    have HO340 := n1_
                    have HO344 := n2_
                    have HO349 := n3_
                    have HO353 := n4_
                    have BK331 := n5_
                    have BK345 := n6_
                    have BK358 := n7_
                    have HB := n8_
                    clear n0_ n1_ n2_ n3_ n4_ n5_ n6_ n7_ n8_
                    (try clear hb)
                    (try clear hb2)
                    (try clear hk)
                    (try clear hi)
                    (try clear ho0)
                    obtain ⟨Ao45, co45, eo45⟩ := Kd.R_slice HO349.out
                    (first | subst eo45 | (injection eo45 with f1_ f2_ f3_; have f4_ := f1_.symm; have f5_ := f3_.symm; clear f1_ f2_ f3_; subst f4_; subst f5_))
                    obtain ⟨Ao46, co46, eo46⟩ := Kd.R_slice HO353.out
                    (first | subst eo46 | (injection eo46 with f1_ f2_ f3_; have f4_ := f1_.symm; have f5_ := f3_.symm; clear f1_ f2_ f3_; subst f4_; subst f5_))
                    refine hK.out _ _ ⟨(blk_cell BK331.out 0).trans rfl, (blk_cell BK331.out 1).trans rfl⟩ (fun hHeld => ?_)
                    clear hK K
                    refine norm_ (a' := ?_) ?_ ?_
                    rotate_left
                    · show Act.put _ (some 60) _ = _
                      simp only [Act.put, List.setIfInBounds_toArray, List.set_cons_zero, List.set_cons_succ, i64_w, i32_w]
                      rfl
                    refine one_ (i := 8) (N := some 61) #[true, true, true, true, true, true, true, true, true, true, false] rfl rfl (one_of HT_.out (by kernel_rfl)) (by decide) (fun K hK => ?_)
                    refine goes_ Tryd.func22 (by kernel_rfl) rfl #[.agg #[.bool t346, .slice Ao45 t347.length co45], .agg #[.bool t350, .slice Ao46 t351.length co46]] (by rfl) rfl rfl qe_ ?_
                    with_reducible refine (merinoref01_Times.calls kj6 t346 _ _ t347 t350 _ _ t351 t354 t355 _ ?side1 ?side2 ?side3 ?side4 A23.out).mono ?_
                    (case side1 => exact qc_ (Kd.R_reads' HO349.out).2.2)
                    (case side2 => exact (Kd.R_reads' HO349.out).2.1)
                    (case side3 => exact qc_ (Kd.R_reads' HO353.out).2.2)
                    (case side4 => exact (Kd.R_reads' HO353.out).2.1)
                    rintro e w47 ⟨v356, rfl, ho0, hb⟩
                    refine ⟨_, rfl, ?_⟩
                    have n0_ := Aside0.mk (Kd.R_elder' (qr_ HO336.out) (Kd.R_base ho0) hb)
                    have n1_ := Aside0.mk (Kd.R_elder' (qr_ HO340.out) (Kd.R_base ho0) hb)
                    have n2_ := Aside0.mk (Kd.R_elder' (qr_ HO344.out) (Kd.R_base ho0) hb)
                    have n3_ := Aside0.mk (Kd.R_elder' (qr_ HO349.out) (Kd.R_base ho0) hb)
                    have n4_ := Aside0.mk (Kd.R_elder' (qr_ HO353.out) (Kd.R_base ho0) hb)
                    have n5_ := Aside0.mk (Kd.R_lower (Kd.R_new' (Kd.R_new' (Kd.R_new' (Kd.R_new' (Kd.R_new' ho0 (Kd.R_lt (qr_ HO336.out))) (Kd.R_lt (qr_ HO340.out))) (Kd.R_lt (qr_ HO344.out))) (Kd.R_lt (qr_ HO349.out))) (Kd.R_lt (qr_ HO353.out))) (below_size (q3_ HB.out GE331.out GE345.out GE358.out)))
                    have n6_ := Aside0.mk (blk_below (g := gb331) (o := .cells #[.int .i64 t328, .int .i64 t329] 23 (0, 0)) (qb_ BK331.out) hb)
                    have n7_ := Aside0.mk (blk_below (g := gb345) (o := .cells #[.bool t341, .slice Ao39 t342.length co39] 31 (0, 0)) (qb_ BK345.out) hb)
                    have n8_ := Aside0.mk (blk_below (g := gb358) (o := .cells #[.bool false, .slice none 0 0] 31 (0, 0)) (qb_ BK358.out) hb)
                    have n9_ := Aside0.mk (below_step (q3_ HB.out GE331.out GE345.out GE358.out) hb)
                    clear HO336
                    clear HO340
                    clear HO344
                    clear HO349
                    clear HO353
                    clear BK331
                    clear BK345
                    clear BK358
                    clear HB
                    have HO336 := n0_
                    have HO340 := n1_
                    have HO344 := n2_
                    have HO349 := n3_
                    have HO353 := n4_
                    have HO357 := n5_
                    have BK331 := n6_
                    have BK345 := n7_
                    have BK358 := n8_
                    have HB := n9_
                    clear n0_ n1_ n2_ n3_ n4_ n5_ n6_ n7_ n8_ n9_
                    (try clear hb)
                    (try clear hb2)
                    (try clear hk)
                    (try clear hi)
                    (try clear ho0)
                    refine hK.out _ _ ⟨(blk_cell BK331.out 0).trans rfl, (blk_cell BK331.out 1).trans rfl⟩ (fun hHeld => ?_)
                    clear hK K
                    refine norm_ (a' := ?_) ?_ ?_
                    rotate_left
                    · show Act.put _ (some 61) _ = _
                      simp only [Act.put, List.setIfInBounds_toArray, List.set_cons_zero, List.set_cons_succ, i64_w, i32_w]
                      rfl
                    exact norm_ (by simp only [putAll, Act.put, List.setIfInBounds_toArray, List.set_cons_zero, List.set_cons_succ]) (hCont (.slice Ao45 t347.length co45, .slice Ao46 t351.length co46, v356, gb358) _ ⟨hHeld, (by (with_reducible repeat (first | apply Kd.R_alloc | apply Kd.R_drewN | apply Kd.R_drew)); exact Kd.R_mono HO336.out (fun _ hk => ⟨hk.1.1.1.1, ⟨hk.1.1.1.2, ⟨hk.1.1.2, ⟨hk.1.2, hk.2⟩⟩⟩⟩)), (by (with_reducible repeat (first | apply Kd.R_alloc | apply Kd.R_drewN | apply Kd.R_drew)); exact Kd.R_mono HO340.out (fun _ hk => ⟨hk.1.1.1.1, ⟨hk.1.1.1.2, ⟨hk.1.1.2, ⟨hk.1.2, hk.2⟩⟩⟩⟩)), (by (with_reducible repeat (first | apply Kd.R_alloc | apply Kd.R_drewN | apply Kd.R_drew)); exact Kd.R_mono HO344.out (fun _ hk => ⟨hk.1.1.1.1, ⟨hk.1.1.1.2, ⟨hk.1.1.2, ⟨hk.1.2, hk.2⟩⟩⟩⟩)), (by (with_reducible repeat (first | apply Kd.R_alloc | apply Kd.R_drewN | apply Kd.R_drew)); exact Kd.R_mono HO349.out (fun _ hk => ⟨hk.1.1.1.1.2, ⟨hk.1.1.1.2, ⟨hk.1.1.2, ⟨hk.1.2, hk.2⟩⟩⟩⟩)), (by (with_reducible repeat (first | apply Kd.R_alloc | apply Kd.R_drewN | apply Kd.R_drew)); exact Kd.R_mono HO353.out (fun _ hk => ⟨hk.1.1.1.1.2, ⟨hk.1.1.1.2, ⟨hk.1.1.2, ⟨hk.1.2, hk.2⟩⟩⟩⟩)), (by (with_reducible repeat (first | apply Kd.R_alloc | apply Kd.R_drewN | apply Kd.R_drew)); exact Kd.R_mono HO357.out (fun _ hk => ⟨hk.1.1.1.1.2, ⟨hk.1.1.1.2, ⟨hk.1.1.2, ⟨hk.1.2, hk.2⟩⟩⟩⟩)), (qb_ BK331.out), (qb_ BK345.out), (qb_ BK358.out), GW358.out, GE358.out, NB331_358.out, NB358_331.out, NB345_358.out, NB358_345.out, (q3_ HB.out GE331.out GE345.out GE358.out)⟩)
                · skip
                  refine box_step ?hg (N := 14) ?hd (cs := #[.bool false, .slice none 0 0]) (t := 31) ?hr ?_; (case hd => rfl); (case hg => rfl); (case hr => first | (go_simp; done) | (go_simp; rfl))
                  intro gb358 hg w42 hbox hb
                  have n0_ := Aside0.mk (Kd.R_below (qr_ HO336.out) hb)
                  have n1_ := Aside0.mk (Kd.R_below (qr_ HO340.out) hb)
                  have n2_ := Aside0.mk (Kd.R_below (qr_ HO344.out) hb)
                  have n3_ := Aside0.mk (blk_below (g := gb331) (o := .cells #[.int .i64 t328, .int .i64 t329] 23 (0, 0)) (qb_ BK331.out) hb)
                  have n4_ := Aside0.mk (blk_below (g := gb345) (o := .cells #[.bool t341, .slice Ao39 t342.length co39] 31 (0, 0)) (qb_ BK345.out) hb)
                  have n5_ := Aside0.mk (below_step (q2_ HB.out GE331.out GE345.out) hb)
                  have n6_ := Aside0.mk (hbox)
                  have n7_ := Aside0.mk ((by rw [hg]; exact (below_size (q2_ HB.out GE331.out GE345.out)) : w.heap.size ≤ gb358))
                  have n8_ := Aside0.mk ((by rw [hg]; exact (below_size (q2_ HB.out GE331.out GE345.out)) : w.heap.size ≤ gb358))
                  have n9_ := Aside0.mk ((by rw [hg]; exact Nat.ne_of_lt (blk_lt (g := gb331) (o := .cells #[.int .i64 t328, .int .i64 t329] 23 (0, 0)) (qb_ BK331.out)) : gb331 ≠ gb358))
                  have n10_ := Aside0.mk ((by rw [hg]; exact Nat.ne_of_gt (blk_lt (g := gb331) (o := .cells #[.int .i64 t328, .int .i64 t329] 23 (0, 0)) (qb_ BK331.out)) : gb358 ≠ gb331))
                  have n11_ := Aside0.mk ((by rw [hg]; exact Nat.ne_of_lt (blk_lt (g := gb345) (o := .cells #[.bool t341, .slice Ao39 t342.length co39] 31 (0, 0)) (qb_ BK345.out)) : gb345 ≠ gb358))
                  have n12_ := Aside0.mk ((by rw [hg]; exact Nat.ne_of_gt (blk_lt (g := gb345) (o := .cells #[.bool t341, .slice Ao39 t342.length co39] 31 (0, 0)) (qb_ BK345.out)) : gb358 ≠ gb345))
                  clear HO336
                  clear HO340
                  clear HO344
                  clear BK331
                  clear BK345
                  clear HB
                  have HO336 := n0_
                  have HO340 := n1_
                  have HO344 := n2_
                  have BK331 := n3_
                  have BK345 := n4_
                  have HB := n5_
                  have BK358 := n6_
                  have GW358 := n7_
                  have GE358 := n8_
                  have NB331_358 := n9_
                  have NB358_331 := n10_
                  have NB345_358 := n11_
                  have NB358_345 := n12_
                  clear n0_ n1_ n2_ n3_ n4_ n5_ n6_ n7_ n8_ n9_ n10_ n11_ n12_
                  clear hb hbox hg
                  refine hK.out _ _ ⟨(blk_cell BK331.out 0).trans rfl, (blk_cell BK331.out 1).trans rfl⟩ (fun hHeld => ?_)
                  clear hK K
                  refine norm_ (a' := ?_) ?_ ?_
                  rotate_left
                  · show Act.put _ (some 14) _ = _
                    simp only [Act.put, List.setIfInBounds_toArray, List.set_cons_zero, List.set_cons_succ, i64_w, i32_w]
                    rfl
                  refine one_ (i := 4) (N := some 57) #[true, true, true, true, true, true, true, false, false, true, false] rfl rfl (one_of HT_.out (by kernel_rfl)) (by decide) (fun K hK => ?_)
                  refine goes_ Tryd.func23 (by kernel_rfl) rfl #[.int .i64 a0, .int .i64 a1, .int .i64 a3, .int .i64 a4] (by rfl) rfl rfl qe_ ?_
                  with_reducible refine (merinolaw01_off.calls kj6 a0 a1 a3 a4 t346 t347 _ A21.out).mono ?_
                  rintro e w43 ⟨v348, rfl, ho0, hb⟩
                  refine ⟨_, rfl, ?_⟩
                  have n0_ := Aside0.mk (Kd.R_elder' (qr_ HO336.out) (Kd.R_base ho0) hb)
                  have n1_ := Aside0.mk (Kd.R_elder' (qr_ HO340.out) (Kd.R_base ho0) hb)
                  have n2_ := Aside0.mk (Kd.R_elder' (qr_ HO344.out) (Kd.R_base ho0) hb)
                  have n3_ := Aside0.mk (Kd.R_lower (Kd.R_new' (Kd.R_new' (Kd.R_new' ho0 (Kd.R_lt (qr_ HO336.out))) (Kd.R_lt (qr_ HO340.out))) (Kd.R_lt (qr_ HO344.out))) (below_size (q3_ HB.out GE331.out GE345.out GE358.out)))
                  have n4_ := Aside0.mk (blk_below (g := gb331) (o := .cells #[.int .i64 t328, .int .i64 t329] 23 (0, 0)) (qb_ BK331.out) hb)
                  have n5_ := Aside0.mk (blk_below (g := gb345) (o := .cells #[.bool t341, .slice Ao39 t342.length co39] 31 (0, 0)) (qb_ BK345.out) hb)
                  have n6_ := Aside0.mk (blk_below (g := gb358) (o := .cells #[.bool false, .slice none 0 0] 31 (0, 0)) (qb_ BK358.out) hb)
                  have n7_ := Aside0.mk (below_step (q3_ HB.out GE331.out GE345.out GE358.out) hb)
                  clear HO336
                  clear HO340
                  clear HO344
                  clear BK331
                  clear BK345
                  clear BK358
                  clear HB
                  have HO336 := n0_
                  have HO340 := n1_
                  have HO344 := n2_
                  have HO349 := n3_
                  have BK331 := n4_
                  have BK345 := n5_
                  have BK358 := n6_
                  have HB := n7_
                  clear n0_ n1_ n2_ n3_ n4_ n5_ n6_ n7_
                  (try clear hb)
                  (try clear hb2)
                  (try clear hk)
                  (try clear hi)
                  (try clear ho0)
                  refine hK.out _ _ ⟨(blk_cell BK331.out 0).trans rfl, (blk_cell BK331.out 1).trans rfl⟩ (fun hHeld => ?_)
                  clear hK K
                  refine norm_ (a' := ?_) ?_ ?_
                  rotate_left
                  · show Act.put _ (some 57) _ = _
                    simp only [Act.put, List.setIfInBounds_toArray, List.set_cons_zero, List.set_cons_succ, i64_w, i32_w]
                    rfl
                  refine one_ (i := 7) (N := some 60) #[true, true, true, true, true, true, true, true, false, true, false] rfl rfl (one_of HT_.out (by kernel_rfl)) (by decide) (fun K hK => ?_)
                  refine goes_ Tryd.func24 (by kernel_rfl) rfl #[.int .i64 t329] (by rfl) rfl rfl qe_ ?_
                  with_reducible refine (merinoref01_Of.calls kj6 t329 t350 t351 _ A22.out).mono ?_
                  rintro e w44 ⟨v352, rfl, ho0, hb⟩
                  refine ⟨_, rfl, ?_⟩
                  have n0_ := Aside0.mk (Kd.R_elder' (qr_ HO336.out) (Kd.R_base ho0) hb)
                  have n1_ := Aside0.mk (Kd.R_elder' (qr_ HO340.out) (Kd.R_base ho0) hb)
                  have n2_ := Aside0.mk (Kd.R_elder' (qr_ HO344.out) (Kd.R_base ho0) hb)
                  have n3_ := Aside0.mk (Kd.R_elder' (qr_ HO349.out) (Kd.R_base ho0) hb)
                  have n4_ := Aside0.mk (Kd.R_lower (Kd.R_new' (Kd.R_new' (Kd.R_new' (Kd.R_new' ho0 (Kd.R_lt (qr_ HO336.out))) (Kd.R_lt (qr_ HO340.out))) (Kd.R_lt (qr_ HO344.out))) (Kd.R_lt (qr_ HO349.out))) (below_size (q3_ HB.out GE331.out GE345.out GE358.out)))
                  have n5_ := Aside0.mk (blk_below (g := gb331) (o := .cells #[.int .i64 t328, .int .i64 t329] 23 (0, 0)) (qb_ BK331.out) hb)
                  have n6_ := Aside0.mk (blk_below (g := gb345) (o := .cells #[.bool t341, .slice Ao39 t342.length co39] 31 (0, 0)) (qb_ BK345.out) hb)
                  have n7_ := Aside0.mk (blk_below (g := gb358) (o := .cells #[.bool false, .slice none 0 0] 31 (0, 0)) (qb_ BK358.out) hb)
                  have n8_ := Aside0.mk (below_step (q3_ HB.out GE331.out GE345.out GE358.out) hb)
                  clear HO336
                  clear HO340
                  clear HO344
                  clear HO349
                  clear BK331
                  clear BK345
                  clear BK358
                  clear HB
                  have HO336 := n0_
                  have HO340 := n1_
                  have HO344 := n2_
                  have HO349 := n3_
                  have HO353 := n4_
                  have BK331 := n5_
                  have BK345 := n6_
                  have BK358 := n7_
                  have HB := n8_
                  clear n0_ n1_ n2_ n3_ n4_ n5_ n6_ n7_ n8_
                  (try clear hb)
                  (try clear hb2)
                  (try clear hk)
                  (try clear hi)
                  (try clear ho0)
                  obtain ⟨Ao45, co45, eo45⟩ := Kd.R_slice HO349.out
                  (first | subst eo45 | (injection eo45 with f1_ f2_ f3_; have f4_ := f1_.symm; have f5_ := f3_.symm; clear f1_ f2_ f3_; subst f4_; subst f5_))
                  obtain ⟨Ao46, co46, eo46⟩ := Kd.R_slice HO353.out
                  (first | subst eo46 | (injection eo46 with f1_ f2_ f3_; have f4_ := f1_.symm; have f5_ := f3_.symm; clear f1_ f2_ f3_; subst f4_; subst f5_))
                  refine hK.out _ _ ⟨(blk_cell BK331.out 0).trans rfl, (blk_cell BK331.out 1).trans rfl⟩ (fun hHeld => ?_)
                  clear hK K
                  refine norm_ (a' := ?_) ?_ ?_
                  rotate_left
                  · show Act.put _ (some 60) _ = _
                    simp only [Act.put, List.setIfInBounds_toArray, List.set_cons_zero, List.set_cons_succ, i64_w, i32_w]
                    rfl
                  refine one_ (i := 8) (N := some 61) #[true, true, true, true, true, true, true, true, true, true, false] rfl rfl (one_of HT_.out (by kernel_rfl)) (by decide) (fun K hK => ?_)
                  refine goes_ Tryd.func22 (by kernel_rfl) rfl #[.agg #[.bool t346, .slice Ao45 t347.length co45], .agg #[.bool t350, .slice Ao46 t351.length co46]] (by rfl) rfl rfl qe_ ?_
                  with_reducible refine (merinoref01_Times.calls kj6 t346 _ _ t347 t350 _ _ t351 t354 t355 _ ?side1 ?side2 ?side3 ?side4 A23.out).mono ?_
                  (case side1 => exact qc_ (Kd.R_reads' HO349.out).2.2)
                  (case side2 => exact (Kd.R_reads' HO349.out).2.1)
                  (case side3 => exact qc_ (Kd.R_reads' HO353.out).2.2)
                  (case side4 => exact (Kd.R_reads' HO353.out).2.1)
                  rintro e w47 ⟨v356, rfl, ho0, hb⟩
                  refine ⟨_, rfl, ?_⟩
                  have n0_ := Aside0.mk (Kd.R_elder' (qr_ HO336.out) (Kd.R_base ho0) hb)
                  have n1_ := Aside0.mk (Kd.R_elder' (qr_ HO340.out) (Kd.R_base ho0) hb)
                  have n2_ := Aside0.mk (Kd.R_elder' (qr_ HO344.out) (Kd.R_base ho0) hb)
                  have n3_ := Aside0.mk (Kd.R_elder' (qr_ HO349.out) (Kd.R_base ho0) hb)
                  have n4_ := Aside0.mk (Kd.R_elder' (qr_ HO353.out) (Kd.R_base ho0) hb)
                  have n5_ := Aside0.mk (Kd.R_lower (Kd.R_new' (Kd.R_new' (Kd.R_new' (Kd.R_new' (Kd.R_new' ho0 (Kd.R_lt (qr_ HO336.out))) (Kd.R_lt (qr_ HO340.out))) (Kd.R_lt (qr_ HO344.out))) (Kd.R_lt (qr_ HO349.out))) (Kd.R_lt (qr_ HO353.out))) (below_size (q3_ HB.out GE331.out GE345.out GE358.out)))
                  have n6_ := Aside0.mk (blk_below (g := gb331) (o := .cells #[.int .i64 t328, .int .i64 t329] 23 (0, 0)) (qb_ BK331.out) hb)
                  have n7_ := Aside0.mk (blk_below (g := gb345) (o := .cells #[.bool t341, .slice Ao39 t342.length co39] 31 (0, 0)) (qb_ BK345.out) hb)
                  have n8_ := Aside0.mk (blk_below (g := gb358) (o := .cells #[.bool false, .slice none 0 0] 31 (0, 0)) (qb_ BK358.out) hb)
                  have n9_ := Aside0.mk (below_step (q3_ HB.out GE331.out GE345.out GE358.out) hb)
                  clear HO336
                  clear HO340
                  clear HO344
                  clear HO349
                  clear HO353
                  clear BK331
                  clear BK345
                  clear BK358
                  clear HB
                  have HO336 := n0_
                  have HO340 := n1_
                  have HO344 := n2_
                  have HO349 := n3_
                  have HO353 := n4_
                  have HO357 := n5_
                  have BK331 := n6_
                  have BK345 := n7_
                  have BK358 := n8_
                  have HB := n9_
                  clear n0_ n1_ n2_ n3_ n4_ n5_ n6_ n7_ n8_ n9_
                  (try clear hb)
                  (try clear hb2)
                  (try clear hk)
                  (try clear hi)
                  (try clear ho0)
                  refine hK.out _ _ ⟨(blk_cell BK331.out 0).trans rfl, (blk_cell BK331.out 1).trans rfl⟩ (fun hHeld => ?_)
                  clear hK K
                  refine norm_ (a' := ?_) ?_ ?_
                  rotate_left
                  · show Act.put _ (some 61) _ = _
                    simp only [Act.put, List.setIfInBounds_toArray, List.set_cons_zero, List.set_cons_succ, i64_w, i32_w]
                    rfl
                  exact norm_ (by simp only [putAll, Act.put, List.setIfInBounds_toArray, List.set_cons_zero, List.set_cons_succ]) (hCont (.slice Ao45 t347.length co45, .slice Ao46 t351.length co46, v356, gb358) _ ⟨hHeld, (by (with_reducible repeat (first | apply Kd.R_alloc | apply Kd.R_drewN | apply Kd.R_drew)); exact Kd.R_mono HO336.out (fun _ hk => ⟨hk.1.1.1.1, ⟨hk.1.1.1.2, ⟨hk.1.1.2, ⟨hk.1.2, hk.2⟩⟩⟩⟩)), (by (with_reducible repeat (first | apply Kd.R_alloc | apply Kd.R_drewN | apply Kd.R_drew)); exact Kd.R_mono HO340.out (fun _ hk => ⟨hk.1.1.1.1, ⟨hk.1.1.1.2, ⟨hk.1.1.2, ⟨hk.1.2, hk.2⟩⟩⟩⟩)), (by (with_reducible repeat (first | apply Kd.R_alloc | apply Kd.R_drewN | apply Kd.R_drew)); exact Kd.R_mono HO344.out (fun _ hk => ⟨hk.1.1.1.1, ⟨hk.1.1.1.2, ⟨hk.1.1.2, ⟨hk.1.2, hk.2⟩⟩⟩⟩)), (by (with_reducible repeat (first | apply Kd.R_alloc | apply Kd.R_drewN | apply Kd.R_drew)); exact Kd.R_mono HO349.out (fun _ hk => ⟨hk.1.1.1.1.2, ⟨hk.1.1.1.2, ⟨hk.1.1.2, ⟨hk.1.2, hk.2⟩⟩⟩⟩)), (by (with_reducible repeat (first | apply Kd.R_alloc | apply Kd.R_drewN | apply Kd.R_drew)); exact Kd.R_mono HO353.out (fun _ hk => ⟨hk.1.1.1.1.2, ⟨hk.1.1.1.2, ⟨hk.1.1.2, ⟨hk.1.2, hk.2⟩⟩⟩⟩)), (by (with_reducible repeat (first | apply Kd.R_alloc | apply Kd.R_drewN | apply Kd.R_drew)); exact Kd.R_mono HO357.out (fun _ hk => ⟨hk.1.1.1.1.2, ⟨hk.1.1.1.2, ⟨hk.1.1.2, ⟨hk.1.2, hk.2⟩⟩⟩⟩)), (qb_ BK331.out), (qb_ BK345.out), (qb_ BK358.out), GW358.out, GE358.out, NB331_358.out, NB358_331.out, NB345_358.out, NB358_345.out, (q3_ HB.out GE331.out GE345.out GE358.out)⟩)
              rintro ⟨v348, v352, v356, gb358⟩ w48 ⟨hS_, h0_, h1_, h2_, h3_, h4_, h5_, h6_, h7_, h8_, h9_, h10_, h11_, h12_, h13_, h14_, h15_⟩
              have n0_ : Aside0 (Kd.R (Kd.int .i64) 3 w48 w.heap.size (fun k_ => some k_ ≠ (.slice Ao34 t338.length co34 : Value).ownBlock ∧ some k_ ≠ (.slice Ao39 t342.length co39 : Value).ownBlock ∧ some k_ ≠ (v348 : Value).ownBlock ∧ some k_ ≠ (v352 : Value).ownBlock ∧ some k_ ≠ (v356 : Value).ownBlock) (.slice Ao33 t334.length co33) t334) := ⟨h0_⟩
              have n1_ : Aside0 (Kd.R (Kd.int .i64) 3 w48 w.heap.size (fun k_ => some k_ ≠ (.slice Ao33 t334.length co33 : Value).ownBlock ∧ some k_ ≠ (.slice Ao39 t342.length co39 : Value).ownBlock ∧ some k_ ≠ (v348 : Value).ownBlock ∧ some k_ ≠ (v352 : Value).ownBlock ∧ some k_ ≠ (v356 : Value).ownBlock) (.slice Ao34 t338.length co34) t338) := ⟨h1_⟩
              have n2_ : Aside0 (Kd.R (Kd.int .i64) 3 w48 w.heap.size (fun k_ => some k_ ≠ (.slice Ao33 t334.length co33 : Value).ownBlock ∧ some k_ ≠ (.slice Ao34 t338.length co34 : Value).ownBlock ∧ some k_ ≠ (v348 : Value).ownBlock ∧ some k_ ≠ (v352 : Value).ownBlock ∧ some k_ ≠ (v356 : Value).ownBlock) (.slice Ao39 t342.length co39) t342) := ⟨h2_⟩
              have n3_ : Aside0 (Kd.R (Kd.int .i64) 3 w48 w.heap.size (fun k_ => some k_ ≠ (.slice Ao33 t334.length co33 : Value).ownBlock ∧ some k_ ≠ (.slice Ao34 t338.length co34 : Value).ownBlock ∧ some k_ ≠ (.slice Ao39 t342.length co39 : Value).ownBlock ∧ some k_ ≠ (v352 : Value).ownBlock ∧ some k_ ≠ (v356 : Value).ownBlock) v348 t347) := ⟨h3_⟩
              have n4_ : Aside0 (Kd.R (Kd.int .i64) 3 w48 w.heap.size (fun k_ => some k_ ≠ (.slice Ao33 t334.length co33 : Value).ownBlock ∧ some k_ ≠ (.slice Ao34 t338.length co34 : Value).ownBlock ∧ some k_ ≠ (.slice Ao39 t342.length co39 : Value).ownBlock ∧ some k_ ≠ (v348 : Value).ownBlock ∧ some k_ ≠ (v356 : Value).ownBlock) v352 t351) := ⟨h4_⟩
              have n5_ : Aside0 (Kd.R (Kd.int .i64) 3 w48 w.heap.size (fun k_ => some k_ ≠ (.slice Ao33 t334.length co33 : Value).ownBlock ∧ some k_ ≠ (.slice Ao34 t338.length co34 : Value).ownBlock ∧ some k_ ≠ (.slice Ao39 t342.length co39 : Value).ownBlock ∧ some k_ ≠ (v348 : Value).ownBlock ∧ some k_ ≠ (v352 : Value).ownBlock) v356 t355) := ⟨h5_⟩
              have n6_ : Aside0 (w48.heap[gb331]? = some (.cells #[.int .i64 t328, .int .i64 t329] 23 (0, 0))) := ⟨h6_⟩
              have n7_ : Aside0 (w48.heap[gb345]? = some (.cells #[.bool t341, .slice Ao39 t342.length co39] 31 (0, 0))) := ⟨h7_⟩
              have n8_ : Aside0 (w48.heap[gb358]? = some (.cells #[.bool false, .slice none 0 0] 31 (0, 0))) := ⟨h8_⟩
              have n9_ : Aside0 (w.heap.size ≤ gb358) := ⟨h9_⟩
              have n10_ : Aside0 (w.heap.size ≤ gb358) := ⟨h10_⟩
              have n11_ : Aside0 (gb331 ≠ gb358) := ⟨h11_⟩
              have n12_ : Aside0 (gb358 ≠ gb331) := ⟨h12_⟩
              have n13_ : Aside0 (gb345 ≠ gb358) := ⟨h13_⟩
              have n14_ : Aside0 (gb358 ≠ gb345) := ⟨h14_⟩
              have n15_ : Aside0 (Below w.heap.size w w48) := ⟨h15_⟩
              clear HO336
              clear HO340
              clear HO344
              clear BK331
              clear BK345
              clear HB
              clear h0_ h1_ h2_ h3_ h4_ h5_ h6_ h7_ h8_ h9_ h10_ h11_ h12_ h13_ h14_ h15_
              have HO336 := n0_
              have HO340 := n1_
              have HO344 := n2_
              have HO349 := n3_
              have HO353 := n4_
              have HO357 := n5_
              have BK331 := n6_
              have BK345 := n7_
              have BK358 := n8_
              have GW358 := n9_
              have GE358 := n10_
              have NB331_358 := n11_
              have NB358_331 := n12_
              have NB345_358 := n13_
              have NB358_345 := n14_
              have HB := n15_
              clear n0_ n1_ n2_ n3_ n4_ n5_ n6_ n7_ n8_ n9_ n10_ n11_ n12_ n13_ n14_ n15_
              have hHeld : w48.cell? ⟨gb331, 0, none⟩ = some (.int .i64 t328) ∧ w48.cell? ⟨gb331, 1, none⟩ = some (.int .i64 t329) := hS_
              obtain ⟨Ao50, co50, eo50⟩ := Kd.R_slice HO357.out
              (first | subst eo50 | (injection eo50 with f1_ f2_ f3_; have f4_ := f1_.symm; have f5_ := f3_.symm; clear f1_ f2_ f3_; subst f4_; subst f5_))
              refine norm_ (a' := ?_) ?_ ?_
              rotate_left
              · simp only [putAll, Act.put, List.setIfInBounds_toArray, List.set_cons_zero, List.set_cons_succ]
                rfl
              refine one_ (i := 10) (N := none) #[true, true, true, true, true, true, true, true, true, true, true] rfl rfl (one_of HT_.out (by kernel_rfl)) (by decide) (fun K hK => ?_)
              have hs49 : w48.cell? ⟨gb358, 0, none⟩ = some (.bool false) := (blk_cell BK358.out 0).trans rfl
              have hfs49 := blk_frozen BK358.out 0
              have hns49_0 := NB331_358.out
              have hns49_1 := NB345_358.out
              have hms49_0 := NB358_331.out
              have hms49_1 := NB358_345.out
              have hs51 : w48.cell? ⟨gb358, 1, none⟩ = some (.slice none 0 0) := (blk_cell BK358.out 1).trans rfl
              have hfs51 := blk_frozen BK358.out 1
              have hns51_0 := NB331_358.out
              have hns51_1 := NB345_358.out
              have hms51_0 := NB358_331.out
              have hms51_1 := NB358_345.out
              refine skip_ (w1 := ?_) (by rfl) rfl ?_ ?_
              rotate_left
              · go_simp
                rfl
              refine hK.out _ _ ⟨((cell_far (p := ⟨gb358, _, none⟩) NB331_358.out _).trans (((cell_far (p := ⟨gb358, _, none⟩) NB331_358.out _).trans (hHeld.1)))), ((cell_far (p := ⟨gb358, _, none⟩) NB331_358.out _).trans (((cell_far (p := ⟨gb358, _, none⟩) NB331_358.out _).trans (hHeld.2))))⟩ (fun hHeld => ?_)
              clear hK K
              refine done_ (done_of HT_.out (by kernel_rfl)) ?_
              have hnb52 := NB345_358.out
              have hnc52 := NB358_345.out
              have hcz53_0 : w48.cell? ⟨gb345, 0, none⟩ = some (.bool t341) := (blk_cell BK345.out 0).trans rfl
              have hcz53_1 : w48.cell? ⟨gb345, 1, none⟩ = some (.slice Ao39 t342.length co39) := (blk_cell BK345.out 1).trans rfl
              have hfz53_0 := blk_frozen BK345.out 0
              have hfz53_1 := blk_frozen BK345.out 1
              have hnb54 := NB358_331.out
              have hnc54 := NB331_358.out
              have hcz55_0 : w48.cell? ⟨gb358, 0, none⟩ = some (.bool false) := (blk_cell BK358.out 0).trans rfl
              have hcz55_1 : w48.cell? ⟨gb358, 1, none⟩ = some (.slice none 0 0) := (blk_cell BK358.out 1).trans rfl
              have hfz55_0 := blk_frozen BK358.out 0
              have hfz55_1 := blk_frozen BK358.out 1
              try go_wp2_with (first | ((with_reducible refine gate_callee (f := 25) rfl ?_); refine goesL_ (some 64) rfl rfl Tryd.func25 (by kernel_rfl) rfl #[.agg #[.bool t341, .slice Ao39 t342.length co39], .agg #[.bool t354, .slice Ao50 t355.length co50]] rfl qe_ ?_; (with_reducible refine (merinoref01_Compare.calls kj6 t341 _ _ t342 t354 _ _ t355 t359 _ ?side1 ?side2 ?side3 ?side4 A24.out).mono ?_); (case side1 => refine (Kd.R_reads' (e := 3) (base := w.heap.size) (ok := fun k_ => (some k_ ≠ (.slice Ao33 t334.length co33 : Value).ownBlock ∧ (some k_ ≠ (.slice Ao34 t338.length co34 : Value).ownBlock ∧ (some k_ ≠ (v348 : Value).ownBlock ∧ (some k_ ≠ (v352 : Value).ownBlock ∧ some k_ ≠ (.slice Ao50 t355.length co50 : Value).ownBlock))))) (n := t342.length) (c := co39) ?_).2.2; exact (by (with_reducible repeat (first | apply Kd.R_alloc | apply Kd.R_drewN | apply Kd.R_drew)); exact (Kd.R_mono (Kd.R_far (p := ⟨gb358, 1, none⟩) (Kd.R_far (p := ⟨gb358, 0, none⟩) (Kd.R_types HO344.out BK358.out (by decide)) (fun _ hk => hk.2) (.bool t354)) (fun _ hk => hk.2) (.slice Ao50 t355.length co50)) (fun _ h_ => h_.1)))); (case side2 => exact (Kd.R_reads' HO344.out).2.1); (case side3 => refine (Kd.R_reads' (e := 3) (base := w.heap.size) (ok := fun k_ => (some k_ ≠ (.slice Ao33 t334.length co33 : Value).ownBlock ∧ (some k_ ≠ (.slice Ao34 t338.length co34 : Value).ownBlock ∧ (some k_ ≠ (.slice Ao39 t342.length co39 : Value).ownBlock ∧ (some k_ ≠ (v348 : Value).ownBlock ∧ some k_ ≠ (v352 : Value).ownBlock))))) (n := t355.length) (c := co50) ?_).2.2; exact (by (with_reducible repeat (first | apply Kd.R_alloc | apply Kd.R_drewN | apply Kd.R_drew)); exact (Kd.R_mono (Kd.R_far (p := ⟨gb358, 1, none⟩) (Kd.R_far (p := ⟨gb358, 0, none⟩) (Kd.R_types HO357.out BK358.out (by decide)) (fun _ hk => hk.2) (.bool t354)) (fun _ hk => hk.2) (.slice Ao50 t355.length co50)) (fun _ h_ => h_.1)))); (case side4 => exact (Kd.R_reads' HO357.out).2.1); rintro e w56 ⟨rfl, hb⟩; refine ⟨_, rfl, ?_⟩; have n0_ := Aside0.mk (Kd.R_below (by (with_reducible repeat (first | apply Kd.R_alloc | apply Kd.R_drewN | apply Kd.R_drew)); exact (Kd.R_mono (Kd.R_far (p := ⟨gb358, 1, none⟩) (Kd.R_far (p := ⟨gb358, 0, none⟩) (Kd.R_types HO336.out BK358.out (by decide)) (fun _ hk => hk.2) (.bool t354)) (fun _ hk => hk.2) (.slice Ao50 t355.length co50)) (fun _ h_ => h_.1))) hb); have n1_ := Aside0.mk (Kd.R_below (by (with_reducible repeat (first | apply Kd.R_alloc | apply Kd.R_drewN | apply Kd.R_drew)); exact (Kd.R_mono (Kd.R_far (p := ⟨gb358, 1, none⟩) (Kd.R_far (p := ⟨gb358, 0, none⟩) (Kd.R_types HO340.out BK358.out (by decide)) (fun _ hk => hk.2) (.bool t354)) (fun _ hk => hk.2) (.slice Ao50 t355.length co50)) (fun _ h_ => h_.1))) hb); have n2_ := Aside0.mk (Kd.R_below (by (with_reducible repeat (first | apply Kd.R_alloc | apply Kd.R_drewN | apply Kd.R_drew)); exact (Kd.R_mono (Kd.R_far (p := ⟨gb358, 1, none⟩) (Kd.R_far (p := ⟨gb358, 0, none⟩) (Kd.R_types HO344.out BK358.out (by decide)) (fun _ hk => hk.2) (.bool t354)) (fun _ hk => hk.2) (.slice Ao50 t355.length co50)) (fun _ h_ => h_.1))) hb); have n3_ := Aside0.mk (Kd.R_below (by (with_reducible repeat (first | apply Kd.R_alloc | apply Kd.R_drewN | apply Kd.R_drew)); exact (Kd.R_mono (Kd.R_far (p := ⟨gb358, 1, none⟩) (Kd.R_far (p := ⟨gb358, 0, none⟩) (Kd.R_types HO349.out BK358.out (by decide)) (fun _ hk => hk.2) (.bool t354)) (fun _ hk => hk.2) (.slice Ao50 t355.length co50)) (fun _ h_ => h_.1))) hb); have n4_ := Aside0.mk (Kd.R_below (by (with_reducible repeat (first | apply Kd.R_alloc | apply Kd.R_drewN | apply Kd.R_drew)); exact (Kd.R_mono (Kd.R_far (p := ⟨gb358, 1, none⟩) (Kd.R_far (p := ⟨gb358, 0, none⟩) (Kd.R_types HO353.out BK358.out (by decide)) (fun _ hk => hk.2) (.bool t354)) (fun _ hk => hk.2) (.slice Ao50 t355.length co50)) (fun _ h_ => h_.1))) hb); have n5_ := Aside0.mk (Kd.R_below (by (with_reducible repeat (first | apply Kd.R_alloc | apply Kd.R_drewN | apply Kd.R_drew)); exact (Kd.R_mono (Kd.R_far (p := ⟨gb358, 1, none⟩) (Kd.R_far (p := ⟨gb358, 0, none⟩) (Kd.R_types HO357.out BK358.out (by decide)) (fun _ hk => hk.2) (.bool t354)) (fun _ hk => hk.2) (.slice Ao50 t355.length co50)) (fun _ h_ => h_.1))) hb); have n6_ := Aside0.mk (blk_below (g := gb331) (o := .cells #[.int .i64 t328, .int .i64 t329] 23 (0, 0)) (by (with_reducible repeat (first | refine blk_drewN ?_ _ | refine blk_drew ?_ | refine blk_alloc ?_ _)); refine blk_far ?_ NB331_358.out _; (with_reducible repeat (first | refine blk_drewN ?_ _ | refine blk_drew ?_ | refine blk_alloc ?_ _)); refine blk_far ?_ NB331_358.out _; (with_reducible repeat (first | refine blk_drewN ?_ _ | refine blk_drew ?_ | refine blk_alloc ?_ _)); exact BK331.out) hb); have n7_ := Aside0.mk (blk_below (g := gb345) (o := .cells #[.bool t341, .slice Ao39 t342.length co39] 31 (0, 0)) (by (with_reducible repeat (first | refine blk_drewN ?_ _ | refine blk_drew ?_ | refine blk_alloc ?_ _)); refine blk_far ?_ NB345_358.out _; (with_reducible repeat (first | refine blk_drewN ?_ _ | refine blk_drew ?_ | refine blk_alloc ?_ _)); refine blk_far ?_ NB345_358.out _; (with_reducible repeat (first | refine blk_drewN ?_ _ | refine blk_drew ?_ | refine blk_alloc ?_ _)); exact BK345.out) hb); have n8_ := Aside0.mk (blk_below (g := gb358) (o := .cells #[.bool t354, .slice Ao50 t355.length co50] 31 (0, 0)) (by (with_reducible repeat (first | refine blk_drewN ?_ _ | refine blk_drew ?_ | refine blk_alloc ?_ _)); refine blk_put (cs := #[.bool t354, .slice none 0 0]) ?_ 1 _ rfl; (with_reducible repeat (first | refine blk_drewN ?_ _ | refine blk_drew ?_ | refine blk_alloc ?_ _)); refine blk_put (cs := #[.bool false, .slice none 0 0]) ?_ 0 _ rfl; (with_reducible repeat (first | refine blk_drewN ?_ _ | refine blk_drew ?_ | refine blk_alloc ?_ _)); exact BK358.out) hb); have n9_ := Aside0.mk (below_step (q3_ HB.out GE331.out GE345.out GE358.out) hb); clear HO336; clear HO340; clear HO344; clear HO349; clear HO353; clear HO357; clear BK331; clear BK345; clear BK358; clear HB; have HO336 := n0_; have HO340 := n1_; have HO344 := n2_; have HO349 := n3_; have HO353 := n4_; have HO357 := n5_; have BK331 := n6_; have BK345 := n7_; have BK358 := n8_; have HB := n9_; clear n0_ n1_ n2_ n3_ n4_ n5_ n6_ n7_ n8_ n9_; (try clear hb); (try clear hb2); (try clear hk); (try clear hi); have hcz57_0 : w56.cell? ⟨gb331, 0, none⟩ = some (.int .i64 t328) := (blk_cell BK331.out 0).trans rfl; have hcz57_1 : w56.cell? ⟨gb331, 1, none⟩ = some (.int .i64 t329) := (blk_cell BK331.out 1).trans rfl; have hfz57_0 := blk_frozen BK331.out 0; have hfz57_1 := blk_frozen BK331.out 1) | ((with_reducible refine gate_callee (f := 26) rfl ?_); refine goesL_ (some 66) rfl rfl Tryd.func26 (by kernel_rfl) rfl #[.agg #[.int .i64 t328, .int .i64 t329]] rfl qe_ ?_; (with_reducible refine (num_Valid.calls kj6 t328 t329 true _ A25.out).mono ?_); rintro e w58 ⟨rfl, hb⟩; refine ⟨_, rfl, ?_⟩; have n0_ := Aside0.mk (Kd.R_below (qr_ HO336.out) hb); have n1_ := Aside0.mk (Kd.R_below (qr_ HO340.out) hb); have n2_ := Aside0.mk (Kd.R_below (qr_ HO344.out) hb); have n3_ := Aside0.mk (Kd.R_below (qr_ HO349.out) hb); have n4_ := Aside0.mk (Kd.R_below (qr_ HO353.out) hb); have n5_ := Aside0.mk (Kd.R_below (qr_ HO357.out) hb); have n6_ := Aside0.mk (blk_below (g := gb331) (o := .cells #[.int .i64 t328, .int .i64 t329] 23 (0, 0)) (qb_ BK331.out) hb); have n7_ := Aside0.mk (blk_below (g := gb345) (o := .cells #[.bool t341, .slice Ao39 t342.length co39] 31 (0, 0)) (qb_ BK345.out) hb); have n8_ := Aside0.mk (blk_below (g := gb358) (o := .cells #[.bool t354, .slice Ao50 t355.length co50] 31 (0, 0)) (qb_ BK358.out) hb); have n9_ := Aside0.mk (below_step (q3_ HB.out GE331.out GE345.out GE358.out) hb); clear HO336; clear HO340; clear HO344; clear HO349; clear HO353; clear HO357; clear BK331; clear BK345; clear BK358; clear HB; have HO336 := n0_; have HO340 := n1_; have HO344 := n2_; have HO349 := n3_; have HO353 := n4_; have HO357 := n5_; have BK331 := n6_; have BK345 := n7_; have BK358 := n8_; have HB := n9_; clear n0_ n1_ n2_ n3_ n4_ n5_ n6_ n7_ n8_ n9_; (try clear hb); (try clear hb2); (try clear hk); (try clear hi); have hcz59_0 : w58.cell? ⟨gb331, 0, none⟩ = some (.int .i64 t328) := (blk_cell BK331.out 0).trans rfl; have hcz59_1 : w58.cell? ⟨gb331, 1, none⟩ = some (.int .i64 t329) := (blk_cell BK331.out 1).trans rfl; have hfz59_0 := blk_frozen BK331.out 0; have hfz59_1 := blk_frozen BK331.out 1) | (go_at_call 21; (with_reducible refine (merinolaw01_alive.calls  t361 _ A29.out).mono ?_); rintro e w60 ⟨rfl, hb⟩; have n0_ := Aside0.mk (Kd.R_below (qr_ HO336.out) hb); have n1_ := Aside0.mk (Kd.R_below (qr_ HO340.out) hb); have n2_ := Aside0.mk (Kd.R_below (qr_ HO344.out) hb); have n3_ := Aside0.mk (Kd.R_below (qr_ HO349.out) hb); have n4_ := Aside0.mk (Kd.R_below (qr_ HO353.out) hb); have n5_ := Aside0.mk (Kd.R_below (qr_ HO357.out) hb); have n6_ := Aside0.mk (blk_below (g := gb331) (o := .cells #[.int .i64 t328, .int .i64 t329] 23 (0, 0)) (qb_ BK331.out) hb); have n7_ := Aside0.mk (blk_below (g := gb345) (o := .cells #[.bool t341, .slice Ao39 t342.length co39] 31 (0, 0)) (qb_ BK345.out) hb); have n8_ := Aside0.mk (blk_below (g := gb358) (o := .cells #[.bool t354, .slice Ao50 t355.length co50] 31 (0, 0)) (qb_ BK358.out) hb); have n9_ := Aside0.mk (below_step (q3_ HB.out GE331.out GE345.out GE358.out) hb); clear HO336; clear HO340; clear HO344; clear HO349; clear HO353; clear HO357; clear BK331; clear BK345; clear BK358; clear HB; have HO336 := n0_; have HO340 := n1_; have HO344 := n2_; have HO349 := n3_; have HO353 := n4_; have HO357 := n5_; have BK331 := n6_; have BK345 := n7_; have BK358 := n8_; have HB := n9_; clear n0_ n1_ n2_ n3_ n4_ n5_ n6_ n7_ n8_ n9_; (try clear hb); (try clear hb2); (try clear hk); (try clear hi)))
              go_ret
              exact ⟨by first | rfl | (simp [errW_none, errW_some] <;> rfl) | (simp [*, errW_none, errW_some] <;> rfl), (q3_ HB.out GE331.out GE345.out GE358.out)⟩
            · rw [if_neg c28] at H
              have c28b0 : decide (t359 < 0) = false := decide_eq_false c28
              clear c28
              by_cases c61 : t359 = 0
              · rw [if_pos c61] at H
                have c61b0 : (t359 == 0) = true := beq_iff_eq.mpr c61
                have c61b1 : (t359 != 0) = false := bne_eq_false_iff_eq.mpr c61
                clear c61
                by_cases c62 : t329 < a4
                · rw [if_pos c62] at H
                  have c62b0 : decide (t329 < a4) = true := decide_eq_true c62
                  clear c62
                  replace H := Option.bind_eq_some_iff.mp H
                  obtain ⟨t362, A630, H⟩ := H
                  replace H : (some t362) = some r := H
                  have A63 := Aside0.mk A630
                  clear A630
                  obtain rfl := Option.some.inj H
                  have hcz64_0 : wc.cell? ⟨gb331, 0, none⟩ = some (.int .i64 t328) := (blk_cell BK331.out 0).trans rfl
                  have hcz64_1 : wc.cell? ⟨gb331, 1, none⟩ = some (.int .i64 t329) := (blk_cell BK331.out 1).trans rfl
                  have hfz64_0 := blk_frozen BK331.out 0
                  have hfz64_1 := blk_frozen BK331.out 1
                  try go_wp2_with (first | ((with_reducible refine gate_callee (f := 23) rfl ?_); refine goesL_ (some 49) rfl rfl Tryd.func23 (by kernel_rfl) rfl #[.int .i64 a0, .int .i64 a1, .int .i64 t328, .int .i64 t329] rfl qe_ ?_; (with_reducible refine (merinolaw01_off.calls kj6 a0 a1 t328 t329 t333 t334 _ A18.out).mono ?_); rintro e w65 ⟨v335, rfl, ho0, hb⟩; refine ⟨_, rfl, ?_⟩; have n0_ := Aside0.mk (Kd.R_lower ho0 (below_size (q1_ HB.out GE331.out))); have n1_ := Aside0.mk (blk_below (g := gb331) (o := .cells #[.int .i64 t328, .int .i64 t329] 23 (0, 0)) (qb_ BK331.out) hb); have n2_ := Aside0.mk (below_step (q1_ HB.out GE331.out) hb); clear BK331; clear HB; have HO336 := n0_; have BK331 := n1_; have HB := n2_; clear n0_ n1_ n2_; (try clear hb); (try clear hb2); (try clear hk); (try clear hi); (try clear ho0)) | ((with_reducible refine gate_callee (f := 24) rfl ?_); refine goesL_ (some 51) rfl rfl Tryd.func24 (by kernel_rfl) rfl #[.int .i64 a4] rfl qe_ ?_; (with_reducible refine (merinoref01_Of.calls kj6 a4 t337 t338 _ A19.out).mono ?_); rintro e w66 ⟨v339, rfl, ho0, hb⟩; refine ⟨_, rfl, ?_⟩; have n0_ := Aside0.mk (Kd.R_elder' (qr_ HO336.out) (Kd.R_base ho0) hb); have n1_ := Aside0.mk (Kd.R_lower (Kd.R_new' ho0 (Kd.R_lt (qr_ HO336.out))) (below_size (q1_ HB.out GE331.out))); have n2_ := Aside0.mk (blk_below (g := gb331) (o := .cells #[.int .i64 t328, .int .i64 t329] 23 (0, 0)) (qb_ BK331.out) hb); have n3_ := Aside0.mk (below_step (q1_ HB.out GE331.out) hb); clear HO336; clear BK331; clear HB; have HO336 := n0_; have HO340 := n1_; have BK331 := n2_; have HB := n3_; clear n0_ n1_ n2_ n3_; (try clear hb); (try clear hb2); (try clear hk); (try clear hi); (try clear ho0); obtain ⟨Ao67, co67, eo67⟩ := Kd.R_slice HO336.out; subst eo67; obtain ⟨Ao68, co68, eo68⟩ := Kd.R_slice HO340.out; subst eo68) | ((with_reducible refine gate_callee (f := 22) rfl ?_); refine goesL_ (some 52) rfl rfl Tryd.func22 (by kernel_rfl) rfl #[.agg #[.bool t333, .slice Ao67 t334.length co67], .agg #[.bool t337, .slice Ao68 t338.length co68]] rfl qe_ ?_; (with_reducible refine (merinoref01_Times.calls kj6 t333 _ _ t334 t337 _ _ t338 t341 t342 _ ?side1 ?side2 ?side3 ?side4 A20.out).mono ?_); (case side1 => exact qc_ (Kd.R_reads' HO336.out).2.2); (case side2 => exact (Kd.R_reads' HO336.out).2.1); (case side3 => exact qc_ (Kd.R_reads' HO340.out).2.2); (case side4 => exact (Kd.R_reads' HO340.out).2.1); rintro e w69 ⟨v343, rfl, ho0, hb⟩; refine ⟨_, rfl, ?_⟩; have n0_ := Aside0.mk (Kd.R_elder' (qr_ HO336.out) (Kd.R_base ho0) hb); have n1_ := Aside0.mk (Kd.R_elder' (qr_ HO340.out) (Kd.R_base ho0) hb); have n2_ := Aside0.mk (Kd.R_lower (Kd.R_new' (Kd.R_new' ho0 (Kd.R_lt (qr_ HO336.out))) (Kd.R_lt (qr_ HO340.out))) (below_size (q1_ HB.out GE331.out))); have n3_ := Aside0.mk (blk_below (g := gb331) (o := .cells #[.int .i64 t328, .int .i64 t329] 23 (0, 0)) (qb_ BK331.out) hb); have n4_ := Aside0.mk (below_step (q1_ HB.out GE331.out) hb); clear HO336; clear HO340; clear BK331; clear HB; have HO336 := n0_; have HO340 := n1_; have HO344 := n2_; have BK331 := n3_; have HB := n4_; clear n0_ n1_ n2_ n3_ n4_; (try clear hb); (try clear hb2); (try clear hk); (try clear hi); (try clear ho0)) | ((with_reducible refine gate_dst (N := 13) rfl ?_); refine box_event ?hg (N := 13) ?hd (cs := #[.bool false, .slice none 0 0]) (t := 31) ?hr ?_; (case hd => rfl); (case hg => rfl); (case hr => first | (go_simp; done) | (go_simp; rfl)); intro gb345 hg w70 hbox hb; have n0_ := Aside0.mk (Kd.R_below (qr_ HO336.out) hb); have n1_ := Aside0.mk (Kd.R_below (qr_ HO340.out) hb); have n2_ := Aside0.mk (Kd.R_below (qr_ HO344.out) hb); have n3_ := Aside0.mk (blk_below (g := gb331) (o := .cells #[.int .i64 t328, .int .i64 t329] 23 (0, 0)) (qb_ BK331.out) hb); have n4_ := Aside0.mk (below_step (q1_ HB.out GE331.out) hb); have n5_ := Aside0.mk (hbox); have n6_ := Aside0.mk ((by rw [hg]; exact (below_size (q1_ HB.out GE331.out)) : w.heap.size ≤ gb345)); have n7_ := Aside0.mk ((by rw [hg]; exact (below_size (q1_ HB.out GE331.out)) : w.heap.size ≤ gb345)); have n8_ := Aside0.mk ((by rw [hg]; exact Nat.ne_of_lt (blk_lt (g := gb331) (o := .cells #[.int .i64 t328, .int .i64 t329] 23 (0, 0)) (qb_ BK331.out)) : gb331 ≠ gb345)); have n9_ := Aside0.mk ((by rw [hg]; exact Nat.ne_of_gt (blk_lt (g := gb331) (o := .cells #[.int .i64 t328, .int .i64 t329] 23 (0, 0)) (qb_ BK331.out)) : gb345 ≠ gb331)); clear HO336; clear HO340; clear HO344; clear BK331; clear HB; have HO336 := n0_; have HO340 := n1_; have HO344 := n2_; have BK331 := n3_; have HB := n4_; have BK345 := n5_; have GW345 := n6_; have GE345 := n7_; have NB331_345 := n8_; have NB345_331 := n9_; clear n0_ n1_ n2_ n3_ n4_ n5_ n6_ n7_ n8_ n9_; clear hb hbox hg; have hnb71 := NB345_331.out; have hnc71 := NB331_345.out; have hcz72_0 : w70.cell? ⟨gb345, 0, none⟩ = some (.bool false) := (blk_cell BK345.out 0).trans rfl; have hcz72_1 : w70.cell? ⟨gb345, 1, none⟩ = some (.slice none 0 0) := (blk_cell BK345.out 1).trans rfl; have hfz72_0 := blk_frozen BK345.out 0; have hfz72_1 := blk_frozen BK345.out 1; obtain ⟨Ao73, co73, eo73⟩ := Kd.R_slice HO344.out; subst eo73))
                  have n0_ : Aside0 (Kd.R (Kd.int .i64) 3 ((w70.setCell ⟨gb345, 0, none⟩ (.bool t341)).setCell ⟨gb345, 1, none⟩ (.slice Ao73 t342.length co73)) w.heap.size (fun k_ => some k_ ≠ (.slice Ao68 t338.length co68 : Value).ownBlock ∧ some k_ ≠ (.slice Ao73 t342.length co73 : Value).ownBlock) (.slice Ao67 t334.length co67) t334) := ⟨by (with_reducible repeat (first | apply Kd.R_alloc | apply Kd.R_drewN | apply Kd.R_drew)); exact Kd.R_mono (Kd.R_far (p := ⟨gb345, 1, none⟩) (Kd.R_far (p := ⟨gb345, 0, none⟩) (Kd.R_types HO336.out BK345.out (by decide)) (fun _ hk => hk.2) (.bool t341)) (fun _ hk => hk.2) (.slice Ao73 t342.length co73)) (fun _ hk => ⟨hk.1.1.2, hk.1.2⟩)⟩
                  have n1_ : Aside0 (Kd.R (Kd.int .i64) 3 ((w70.setCell ⟨gb345, 0, none⟩ (.bool t341)).setCell ⟨gb345, 1, none⟩ (.slice Ao73 t342.length co73)) w.heap.size (fun k_ => some k_ ≠ (.slice Ao67 t334.length co67 : Value).ownBlock ∧ some k_ ≠ (.slice Ao73 t342.length co73 : Value).ownBlock) (.slice Ao68 t338.length co68) t338) := ⟨by (with_reducible repeat (first | apply Kd.R_alloc | apply Kd.R_drewN | apply Kd.R_drew)); exact Kd.R_mono (Kd.R_far (p := ⟨gb345, 1, none⟩) (Kd.R_far (p := ⟨gb345, 0, none⟩) (Kd.R_types HO340.out BK345.out (by decide)) (fun _ hk => hk.2) (.bool t341)) (fun _ hk => hk.2) (.slice Ao73 t342.length co73)) (fun _ hk => ⟨hk.1.1.2, hk.1.2⟩)⟩
                  have n2_ : Aside0 (Kd.R (Kd.int .i64) 3 ((w70.setCell ⟨gb345, 0, none⟩ (.bool t341)).setCell ⟨gb345, 1, none⟩ (.slice Ao73 t342.length co73)) w.heap.size (fun k_ => some k_ ≠ (.slice Ao67 t334.length co67 : Value).ownBlock ∧ some k_ ≠ (.slice Ao68 t338.length co68 : Value).ownBlock) (.slice Ao73 t342.length co73) t342) := ⟨by (with_reducible repeat (first | apply Kd.R_alloc | apply Kd.R_drewN | apply Kd.R_drew)); exact Kd.R_mono (Kd.R_far (p := ⟨gb345, 1, none⟩) (Kd.R_far (p := ⟨gb345, 0, none⟩) (Kd.R_types HO344.out BK345.out (by decide)) (fun _ hk => hk.2) (.bool t341)) (fun _ hk => hk.2) (.slice Ao73 t342.length co73)) (fun _ hk => ⟨hk.1.1.2, hk.1.2⟩)⟩
                  have n3_ : Aside0 (((w70.setCell ⟨gb345, 0, none⟩ (.bool t341)).setCell ⟨gb345, 1, none⟩ (.slice Ao73 t342.length co73)).heap[gb331]? = some (.cells #[.int .i64 t328, .int .i64 t329] 23 (0, 0))) := ⟨by (with_reducible repeat (first | refine blk_drewN ?_ _ | refine blk_drew ?_ | refine blk_alloc ?_ _)); refine blk_far ?_ NB331_345.out _; (with_reducible repeat (first | refine blk_drewN ?_ _ | refine blk_drew ?_ | refine blk_alloc ?_ _)); refine blk_far ?_ NB331_345.out _; (with_reducible repeat (first | refine blk_drewN ?_ _ | refine blk_drew ?_ | refine blk_alloc ?_ _)); exact BK331.out⟩
                  have n4_ : Aside0 (((w70.setCell ⟨gb345, 0, none⟩ (.bool t341)).setCell ⟨gb345, 1, none⟩ (.slice Ao73 t342.length co73)).heap[gb345]? = some (.cells #[.bool t341, .slice Ao73 t342.length co73] 31 (0, 0))) := ⟨by (with_reducible repeat (first | refine blk_drewN ?_ _ | refine blk_drew ?_ | refine blk_alloc ?_ _)); refine blk_put (cs := #[.bool t341, .slice none 0 0]) ?_ 1 _ rfl; (with_reducible repeat (first | refine blk_drewN ?_ _ | refine blk_drew ?_ | refine blk_alloc ?_ _)); refine blk_put (cs := #[.bool false, .slice none 0 0]) ?_ 0 _ rfl; (with_reducible repeat (first | refine blk_drewN ?_ _ | refine blk_drew ?_ | refine blk_alloc ?_ _)); exact BK345.out⟩
                  have n5_ : Aside0 (Below w.heap.size w ((w70.setCell ⟨gb345, 0, none⟩ (.bool t341)).setCell ⟨gb345, 1, none⟩ (.slice Ao73 t342.length co73))) := ⟨(q2_ HB.out GE331.out GE345.out)⟩
                  (try clear HO336)
                  (try clear HO340)
                  (try clear HO344)
                  (try clear BK331)
                  (try clear BK345)
                  (try clear HB)
                  generalize ((w70.setCell ⟨gb345, 0, none⟩ (.bool t341)).setCell ⟨gb345, 1, none⟩ (.slice Ao73 t342.length co73)) = w74 at n0_ n1_ n2_ n3_ n4_ n5_ ⊢
                  have HO336 := n0_
                  have HO340 := n1_
                  have HO344 := n2_
                  have BK331 := n3_
                  have BK345 := n4_
                  have HB := n5_
                  clear n0_ n1_ n2_ n3_ n4_ n5_
                  have n0_ := Aside0.mk (Kd.R_drew HO336.out)
                  have n1_ := Aside0.mk (Kd.R_drew HO340.out)
                  have n2_ := Aside0.mk (Kd.R_drew HO344.out)
                  have n3_ := Aside0.mk (blk_drew BK331.out)
                  have n4_ := Aside0.mk (blk_drew BK345.out)
                  have n5_ := Aside0.mk (below_drew1 HB.out)
                  clear HO336
                  clear HO340
                  clear HO344
                  clear BK331
                  clear BK345
                  clear HB
                  have HO336 := n0_
                  have HO340 := n1_
                  have HO344 := n2_
                  have BK331 := n3_
                  have BK345 := n4_
                  have HB := n5_
                  clear n0_ n1_ n2_ n3_ n4_ n5_
                  refine start_ (n := 11) (S := fun w' => w'.cell? ⟨gb331, 0, none⟩ = some (.int .i64 t328) ∧ w'.cell? ⟨gb331, 1, none⟩ = some (.int .i64 t329)) (ds := []) #[false, false, false, false, false, false, false, false, false, false, false] (by kernel_rfl) rfl rfl ⟨(blk_cell BK331.out 0).trans rfl, (blk_cell BK331.out 1).trans rfl⟩ (fun hHeld => ?_); refine with_tabW merinolaw01_NumNearest.tab5 merinolaw01_NumNearest.bits5 (fun HT_ HW_ => ?_)
                  generalize w74.drew = w75 at HO336 HO340 HO344 BK331 BK345 HB hHeld ⊢
                  refine pure_ (i := 0) (N := some 53) (v := ?_) (a' := ?_) #[true, false, false, false, false, false, false, false, false, false, false] rfl rfl (any_of HT_.out (by kernel_rfl)) (fun _ _ _ h => h) (Or.inl ⟨by rfl, ?_⟩) ?_ ?_
                  rotate_left
                  · intro w'
                    go_simp
                    with_reducible rfl
                  rotate_left
                  · simp only [Act.put, List.setIfInBounds_toArray, List.set_cons_zero, List.set_cons_succ, i64_w, i32_w]
                    rfl
                  refine pure_ (i := 1) (N := some 54) (v := ?_) (a' := ?_) #[true, true, false, false, false, false, false, false, false, false, false] rfl rfl (any_of HT_.out (by kernel_rfl)) (fun _ _ _ h => h) (Or.inl ⟨by rfl, ?_⟩) ?_ ?_
                  rotate_left
                  · intro w'
                    go_simp
                    with_reducible rfl
                  rotate_left
                  · simp only [Act.put, List.setIfInBounds_toArray, List.set_cons_zero, List.set_cons_succ, i64_w, i32_w]
                    rfl
                  refine pure_ (i := 2) (N := some 55) (v := ?_) (a' := ?_) #[true, true, true, false, false, false, false, false, false, false, false] rfl rfl (any_of HT_.out (by kernel_rfl)) (fun _ _ _ h => h) (Or.inl ⟨by rfl, ?_⟩) ?_ ?_
                  rotate_left
                  · intro w'
                    go_simp
                    with_reducible rfl
                  rotate_left
                  · simp only [Act.put, List.setIfInBounds_toArray, List.set_cons_zero, List.set_cons_succ, i64_w, i32_w]
                    rfl
                  refine pure_ (i := 3) (N := some 56) (v := ?_) (a' := ?_) #[true, true, true, true, false, false, false, false, false, false, false] rfl rfl (any_of HT_.out (by kernel_rfl)) (fun _ _ _ h => h) (Or.inl ⟨by rfl, ?_⟩) ?_ ?_
                  rotate_left
                  · intro w'
                    go_simp
                    with_reducible rfl
                  rotate_left
                  · simp only [Act.put, List.setIfInBounds_toArray, List.set_cons_zero, List.set_cons_succ, i64_w, i32_w]
                    rfl
                  refine pure_ (i := 5) (N := some 58) (v := ?_) (a' := ?_) #[true, true, true, true, false, true, false, false, false, false, false] rfl rfl (any_of HT_.out (by kernel_rfl)) (fun _ _ _ h => h) (Or.inl ⟨by rfl, ?_⟩) ?_ ?_
                  rotate_left
                  · intro w'
                    go_simp
                    with_reducible rfl
                  rotate_left
                  · simp only [Act.put, List.setIfInBounds_toArray, List.set_cons_zero, List.set_cons_succ, i64_w, i32_w]
                    rfl
                  refine take_ (i := 6) (N := some 59) (v := ?_) (a' := ?_) #[true, true, true, true, false, true, true, false, false, false, false] rfl rfl (take_ofW HT_.out HW_.out (by kernel_rfl)) (fun _ _ _ h => h) (Or.inl ⟨by rfl, ?_⟩) hHeld ?_ ?_
                  rotate_left
                  · rintro w' ⟨s0, s1⟩
                    go_simp
                    with_reducible rfl
                  rotate_left
                  · simp only [Act.put, List.setIfInBounds_toArray, List.set_cons_zero, List.set_cons_succ, i64_w, i32_w]
                    rfl
                  refine join_ (σ := Value × Value × Value × Nat) 1 #[true, true, true, true, true, true, true, true, true, true, false] (fun s_ => [(57, .agg #[.bool t346, s_.1]), (60, .agg #[.bool t350, s_.2.1]), (61, .agg #[.bool t354, s_.2.2.1]), (14, .pointer (some ⟨s_.2.2.2, 0, none⟩))]) (fun s_ w' => (w'.cell? ⟨gb331, 0, none⟩ = some (.int .i64 t328) ∧ w'.cell? ⟨gb331, 1, none⟩ = some (.int .i64 t329)) ∧ (Kd.R (Kd.int .i64) 3 w' w.heap.size (fun k_ => some k_ ≠ (.slice Ao68 t338.length co68 : Value).ownBlock ∧ some k_ ≠ (.slice Ao73 t342.length co73 : Value).ownBlock ∧ some k_ ≠ (s_.1 : Value).ownBlock ∧ some k_ ≠ (s_.2.1 : Value).ownBlock ∧ some k_ ≠ (s_.2.2.1 : Value).ownBlock) (.slice Ao67 t334.length co67) t334) ∧ (Kd.R (Kd.int .i64) 3 w' w.heap.size (fun k_ => some k_ ≠ (.slice Ao67 t334.length co67 : Value).ownBlock ∧ some k_ ≠ (.slice Ao73 t342.length co73 : Value).ownBlock ∧ some k_ ≠ (s_.1 : Value).ownBlock ∧ some k_ ≠ (s_.2.1 : Value).ownBlock ∧ some k_ ≠ (s_.2.2.1 : Value).ownBlock) (.slice Ao68 t338.length co68) t338) ∧ (Kd.R (Kd.int .i64) 3 w' w.heap.size (fun k_ => some k_ ≠ (.slice Ao67 t334.length co67 : Value).ownBlock ∧ some k_ ≠ (.slice Ao68 t338.length co68 : Value).ownBlock ∧ some k_ ≠ (s_.1 : Value).ownBlock ∧ some k_ ≠ (s_.2.1 : Value).ownBlock ∧ some k_ ≠ (s_.2.2.1 : Value).ownBlock) (.slice Ao73 t342.length co73) t342) ∧ (Kd.R (Kd.int .i64) 3 w' w.heap.size (fun k_ => some k_ ≠ (.slice Ao67 t334.length co67 : Value).ownBlock ∧ some k_ ≠ (.slice Ao68 t338.length co68 : Value).ownBlock ∧ some k_ ≠ (.slice Ao73 t342.length co73 : Value).ownBlock ∧ some k_ ≠ (s_.2.1 : Value).ownBlock ∧ some k_ ≠ (s_.2.2.1 : Value).ownBlock) s_.1 t347) ∧ (Kd.R (Kd.int .i64) 3 w' w.heap.size (fun k_ => some k_ ≠ (.slice Ao67 t334.length co67 : Value).ownBlock ∧ some k_ ≠ (.slice Ao68 t338.length co68 : Value).ownBlock ∧ some k_ ≠ (.slice Ao73 t342.length co73 : Value).ownBlock ∧ some k_ ≠ (s_.1 : Value).ownBlock ∧ some k_ ≠ (s_.2.2.1 : Value).ownBlock) s_.2.1 t351) ∧ (Kd.R (Kd.int .i64) 3 w' w.heap.size (fun k_ => some k_ ≠ (.slice Ao67 t334.length co67 : Value).ownBlock ∧ some k_ ≠ (.slice Ao68 t338.length co68 : Value).ownBlock ∧ some k_ ≠ (.slice Ao73 t342.length co73 : Value).ownBlock ∧ some k_ ≠ (s_.1 : Value).ownBlock ∧ some k_ ≠ (s_.2.1 : Value).ownBlock) s_.2.2.1 t355) ∧ (w'.heap[gb331]? = some (.cells #[.int .i64 t328, .int .i64 t329] 23 (0, 0))) ∧ (w'.heap[gb345]? = some (.cells #[.bool t341, .slice Ao73 t342.length co73] 31 (0, 0))) ∧ (w'.heap[s_.2.2.2]? = some (.cells #[.bool false, .slice none 0 0] 31 (0, 0))) ∧ (w.heap.size ≤ s_.2.2.2) ∧ (w.heap.size ≤ s_.2.2.2) ∧ (gb331 ≠ s_.2.2.2) ∧ (s_.2.2.2 ≠ gb331) ∧ (gb345 ≠ s_.2.2.2) ∧ (s_.2.2.2 ≠ gb345) ∧ (Below w.heap.size w w')) ?_ ?_
                  rotate_left
                  · intro hCont
                    refine two_ (i := 4) (j := 9) (Ni := some 57) (Nj := some 14) #[true, true, true, true, true, true, true, false, false, false, false] #[true, true, true, true, false, true, true, false, false, true, false] rfl rfl rfl rfl (two_of HT_.out (by kernel_rfl)) (by decide) (by decide) (fun K hK => ?_) (fun K hK => ?_)
                    · skip
                      refine goes_ Tryd.func23 (by kernel_rfl) rfl #[.int .i64 a0, .int .i64 a1, .int .i64 a3, .int .i64 a4] (by rfl) rfl rfl qe_ ?_
                      with_reducible refine (merinolaw01_off.calls kj6 a0 a1 a3 a4 t346 t347 _ A21.out).mono ?_
                      rintro e w76 ⟨v348, rfl, ho0, hb⟩
                      refine ⟨_, rfl, ?_⟩
                      have n0_ := Aside0.mk (Kd.R_elder' (qr_ HO336.out) (Kd.R_base ho0) hb)
                      have n1_ := Aside0.mk (Kd.R_elder' (qr_ HO340.out) (Kd.R_base ho0) hb)
                      have n2_ := Aside0.mk (Kd.R_elder' (qr_ HO344.out) (Kd.R_base ho0) hb)
                      have n3_ := Aside0.mk (Kd.R_lower (Kd.R_new' (Kd.R_new' (Kd.R_new' ho0 (Kd.R_lt (qr_ HO336.out))) (Kd.R_lt (qr_ HO340.out))) (Kd.R_lt (qr_ HO344.out))) (below_size (q2_ HB.out GE331.out GE345.out)))
                      have n4_ := Aside0.mk (blk_below (g := gb331) (o := .cells #[.int .i64 t328, .int .i64 t329] 23 (0, 0)) (qb_ BK331.out) hb)
                      have n5_ := Aside0.mk (blk_below (g := gb345) (o := .cells #[.bool t341, .slice Ao73 t342.length co73] 31 (0, 0)) (qb_ BK345.out) hb)
                      have n6_ := Aside0.mk (below_step (q2_ HB.out GE331.out GE345.out) hb)
                      clear HO336
                      clear HO340
                      clear HO344
                      clear BK331
                      clear BK345
                      clear HB
                      have HO336 := n0_
                      have HO340 := n1_
                      have HO344 := n2_
                      have HO349 := n3_
                      have BK331 := n4_
                      have BK345 := n5_
                      have HB := n6_
                      clear n0_ n1_ n2_ n3_ n4_ n5_ n6_
                      (try clear hb)
                      (try clear hb2)
                      (try clear hk)
                      (try clear hi)
                      (try clear ho0)
                      refine hK.out _ _ ⟨(blk_cell BK331.out 0).trans rfl, (blk_cell BK331.out 1).trans rfl⟩ (fun hHeld => ?_)
                      clear hK K
                      refine norm_ (a' := ?_) ?_ ?_
                      rotate_left
                      · show Act.put _ (some 57) _ = _
                        simp only [Act.put, List.setIfInBounds_toArray, List.set_cons_zero, List.set_cons_succ, i64_w, i32_w]
                        rfl
                      refine two_ (i := 7) (j := 9) (Ni := some 60) (Nj := some 14) #[true, true, true, true, true, true, true, true, false, false, false] #[true, true, true, true, true, true, true, false, false, true, false] rfl rfl rfl rfl (two_of HT_.out (by kernel_rfl)) (by decide) (by decide) (fun K hK => ?_) (fun K hK => ?_)
                      · skip
                        refine goes_ Tryd.func24 (by kernel_rfl) rfl #[.int .i64 t329] (by rfl) rfl rfl qe_ ?_
                        with_reducible refine (merinoref01_Of.calls kj6 t329 t350 t351 _ A22.out).mono ?_
                        rintro e w77 ⟨v352, rfl, ho0, hb⟩
                        refine ⟨_, rfl, ?_⟩
                        have n0_ := Aside0.mk (Kd.R_elder' (qr_ HO336.out) (Kd.R_base ho0) hb)
                        have n1_ := Aside0.mk (Kd.R_elder' (qr_ HO340.out) (Kd.R_base ho0) hb)
                        have n2_ := Aside0.mk (Kd.R_elder' (qr_ HO344.out) (Kd.R_base ho0) hb)
                        have n3_ := Aside0.mk (Kd.R_elder' (qr_ HO349.out) (Kd.R_base ho0) hb)
                        have n4_ := Aside0.mk (Kd.R_lower (Kd.R_new' (Kd.R_new' (Kd.R_new' (Kd.R_new' ho0 (Kd.R_lt (qr_ HO336.out))) (Kd.R_lt (qr_ HO340.out))) (Kd.R_lt (qr_ HO344.out))) (Kd.R_lt (qr_ HO349.out))) (below_size (q2_ HB.out GE331.out GE345.out)))
                        have n5_ := Aside0.mk (blk_below (g := gb331) (o := .cells #[.int .i64 t328, .int .i64 t329] 23 (0, 0)) (qb_ BK331.out) hb)
                        have n6_ := Aside0.mk (blk_below (g := gb345) (o := .cells #[.bool t341, .slice Ao73 t342.length co73] 31 (0, 0)) (qb_ BK345.out) hb)
                        have n7_ := Aside0.mk (below_step (q2_ HB.out GE331.out GE345.out) hb)
                        clear HO336
                        clear HO340
                        clear HO344
                        clear HO349
                        clear BK331
                        clear BK345
                        clear HB
                        have HO336 := n0_
                        have HO340 := n1_
                        have HO344 := n2_
                        have HO349 := n3_
                        have HO353 := n4_
                        have BK331 := n5_
                        have BK345 := n6_
                        have HB := n7_
                        clear n0_ n1_ n2_ n3_ n4_ n5_ n6_ n7_
                        (try clear hb)
                        (try clear hb2)
                        (try clear hk)
                        (try clear hi)
                        (try clear ho0)
                        obtain ⟨Ao78, co78, eo78⟩ := Kd.R_slice HO349.out
                        (first | subst eo78 | (injection eo78 with f1_ f2_ f3_; have f4_ := f1_.symm; have f5_ := f3_.symm; clear f1_ f2_ f3_; subst f4_; subst f5_))
                        obtain ⟨Ao79, co79, eo79⟩ := Kd.R_slice HO353.out
                        (first | subst eo79 | (injection eo79 with f1_ f2_ f3_; have f4_ := f1_.symm; have f5_ := f3_.symm; clear f1_ f2_ f3_; subst f4_; subst f5_))
                        refine hK.out _ _ ⟨(blk_cell BK331.out 0).trans rfl, (blk_cell BK331.out 1).trans rfl⟩ (fun hHeld => ?_)
                        clear hK K
                        refine norm_ (a' := ?_) ?_ ?_
                        rotate_left
                        · show Act.put _ (some 60) _ = _
                          simp only [Act.put, List.setIfInBounds_toArray, List.set_cons_zero, List.set_cons_succ, i64_w, i32_w]
                          rfl
                        refine two_ (i := 8) (j := 9) (Ni := some 61) (Nj := some 14) #[true, true, true, true, true, true, true, true, true, false, false] #[true, true, true, true, true, true, true, true, false, true, false] rfl rfl rfl rfl (two_of HT_.out (by kernel_rfl)) (by decide) (by decide) (fun K hK => ?_) (fun K hK => ?_)
                        · skip
                          refine goes_ Tryd.func22 (by kernel_rfl) rfl #[.agg #[.bool t346, .slice Ao78 t347.length co78], .agg #[.bool t350, .slice Ao79 t351.length co79]] (by rfl) rfl rfl qe_ ?_
                          with_reducible refine (merinoref01_Times.calls kj6 t346 _ _ t347 t350 _ _ t351 t354 t355 _ ?side1 ?side2 ?side3 ?side4 A23.out).mono ?_
                          (case side1 => exact qc_ (Kd.R_reads' HO349.out).2.2)
                          (case side2 => exact (Kd.R_reads' HO349.out).2.1)
                          (case side3 => exact qc_ (Kd.R_reads' HO353.out).2.2)
                          (case side4 => exact (Kd.R_reads' HO353.out).2.1)
                          rintro e w80 ⟨v356, rfl, ho0, hb⟩
                          refine ⟨_, rfl, ?_⟩
                          have n0_ := Aside0.mk (Kd.R_elder' (qr_ HO336.out) (Kd.R_base ho0) hb)
                          have n1_ := Aside0.mk (Kd.R_elder' (qr_ HO340.out) (Kd.R_base ho0) hb)
                          have n2_ := Aside0.mk (Kd.R_elder' (qr_ HO344.out) (Kd.R_base ho0) hb)
                          have n3_ := Aside0.mk (Kd.R_elder' (qr_ HO349.out) (Kd.R_base ho0) hb)
                          have n4_ := Aside0.mk (Kd.R_elder' (qr_ HO353.out) (Kd.R_base ho0) hb)
                          have n5_ := Aside0.mk (Kd.R_lower (Kd.R_new' (Kd.R_new' (Kd.R_new' (Kd.R_new' (Kd.R_new' ho0 (Kd.R_lt (qr_ HO336.out))) (Kd.R_lt (qr_ HO340.out))) (Kd.R_lt (qr_ HO344.out))) (Kd.R_lt (qr_ HO349.out))) (Kd.R_lt (qr_ HO353.out))) (below_size (q2_ HB.out GE331.out GE345.out)))
                          have n6_ := Aside0.mk (blk_below (g := gb331) (o := .cells #[.int .i64 t328, .int .i64 t329] 23 (0, 0)) (qb_ BK331.out) hb)
                          have n7_ := Aside0.mk (blk_below (g := gb345) (o := .cells #[.bool t341, .slice Ao73 t342.length co73] 31 (0, 0)) (qb_ BK345.out) hb)
                          have n8_ := Aside0.mk (below_step (q2_ HB.out GE331.out GE345.out) hb)
                          clear HO336
                          clear HO340
                          clear HO344
                          clear HO349
                          clear HO353
                          clear BK331
                          clear BK345
                          clear HB
                          have HO336 := n0_
                          have HO340 := n1_
                          have HO344 := n2_
                          have HO349 := n3_
                          have HO353 := n4_
                          have HO357 := n5_
                          have BK331 := n6_
                          have BK345 := n7_
                          have HB := n8_
                          clear n0_ n1_ n2_ n3_ n4_ n5_ n6_ n7_ n8_
                          (try clear hb)
                          (try clear hb2)
                          (try clear hk)
                          (try clear hi)
                          (try clear ho0)
                          refine hK.out _ _ ⟨(blk_cell BK331.out 0).trans rfl, (blk_cell BK331.out 1).trans rfl⟩ (fun hHeld => ?_)
                          clear hK K
                          refine norm_ (a' := ?_) ?_ ?_
                          rotate_left
                          · show Act.put _ (some 61) _ = _
                            simp only [Act.put, List.setIfInBounds_toArray, List.set_cons_zero, List.set_cons_succ, i64_w, i32_w]
                            rfl
                          refine one_ (i := 9) (N := some 14) #[true, true, true, true, true, true, true, true, true, true, false] rfl rfl (one_of HT_.out (by kernel_rfl)) (by decide) (fun K hK => ?_)
                          refine box_step ?hg (N := 14) ?hd (cs := #[.bool false, .slice none 0 0]) (t := 31) ?hr ?_; (case hd => rfl); (case hg => rfl); (case hr => first | (go_simp; done) | (go_simp; rfl))
                          intro gb358 hg w81 hbox hb
                          have n0_ := Aside0.mk (Kd.R_below (qr_ HO336.out) hb)
                          have n1_ := Aside0.mk (Kd.R_below (qr_ HO340.out) hb)
                          have n2_ := Aside0.mk (Kd.R_below (qr_ HO344.out) hb)
                          have n3_ := Aside0.mk (Kd.R_below (qr_ HO349.out) hb)
                          have n4_ := Aside0.mk (Kd.R_below (qr_ HO353.out) hb)
                          have n5_ := Aside0.mk (Kd.R_below (qr_ HO357.out) hb)
                          have n6_ := Aside0.mk (blk_below (g := gb331) (o := .cells #[.int .i64 t328, .int .i64 t329] 23 (0, 0)) (qb_ BK331.out) hb)
                          have n7_ := Aside0.mk (blk_below (g := gb345) (o := .cells #[.bool t341, .slice Ao73 t342.length co73] 31 (0, 0)) (qb_ BK345.out) hb)
                          have n8_ := Aside0.mk (below_step (q2_ HB.out GE331.out GE345.out) hb)
                          have n9_ := Aside0.mk (hbox)
                          have n10_ := Aside0.mk ((by rw [hg]; exact (below_size (q2_ HB.out GE331.out GE345.out)) : w.heap.size ≤ gb358))
                          have n11_ := Aside0.mk ((by rw [hg]; exact (below_size (q2_ HB.out GE331.out GE345.out)) : w.heap.size ≤ gb358))
                          have n12_ := Aside0.mk ((by rw [hg]; exact Nat.ne_of_lt (blk_lt (g := gb331) (o := .cells #[.int .i64 t328, .int .i64 t329] 23 (0, 0)) (qb_ BK331.out)) : gb331 ≠ gb358))
                          have n13_ := Aside0.mk ((by rw [hg]; exact Nat.ne_of_gt (blk_lt (g := gb331) (o := .cells #[.int .i64 t328, .int .i64 t329] 23 (0, 0)) (qb_ BK331.out)) : gb358 ≠ gb331))
                          have n14_ := Aside0.mk ((by rw [hg]; exact Nat.ne_of_lt (blk_lt (g := gb345) (o := .cells #[.bool t341, .slice Ao73 t342.length co73] 31 (0, 0)) (qb_ BK345.out)) : gb345 ≠ gb358))
                          have n15_ := Aside0.mk ((by rw [hg]; exact Nat.ne_of_gt (blk_lt (g := gb345) (o := .cells #[.bool t341, .slice Ao73 t342.length co73] 31 (0, 0)) (qb_ BK345.out)) : gb358 ≠ gb345))
                          clear HO336
                          clear HO340
                          clear HO344
                          clear HO349
                          clear HO353
                          clear HO357
                          clear BK331
                          clear BK345
                          clear HB
                          have HO336 := n0_
                          have HO340 := n1_
                          have HO344 := n2_
                          have HO349 := n3_
                          have HO353 := n4_
                          have HO357 := n5_
                          have BK331 := n6_
                          have BK345 := n7_
                          have HB := n8_
                          have BK358 := n9_
                          have GW358 := n10_
                          have GE358 := n11_
                          have NB331_358 := n12_
                          have NB358_331 := n13_
                          have NB345_358 := n14_
                          have NB358_345 := n15_
                          clear n0_ n1_ n2_ n3_ n4_ n5_ n6_ n7_ n8_ n9_ n10_ n11_ n12_ n13_ n14_ n15_
                          clear hb hbox hg
                          refine hK.out _ _ ⟨(blk_cell BK331.out 0).trans rfl, (blk_cell BK331.out 1).trans rfl⟩ (fun hHeld => ?_)
                          clear hK K
                          refine norm_ (a' := ?_) ?_ ?_
                          rotate_left
                          · show Act.put _ (some 14) _ = _
                            simp only [Act.put, List.setIfInBounds_toArray, List.set_cons_zero, List.set_cons_succ, i64_w, i32_w]
                            rfl
                          exact norm_ (by simp only [putAll, Act.put, List.setIfInBounds_toArray, List.set_cons_zero, List.set_cons_succ]) (hCont (.slice Ao78 t347.length co78, .slice Ao79 t351.length co79, v356, gb358) _ ⟨hHeld, (by (with_reducible repeat (first | apply Kd.R_alloc | apply Kd.R_drewN | apply Kd.R_drew)); exact Kd.R_mono HO336.out (fun _ hk => ⟨hk.1.1.1.1, ⟨hk.1.1.1.2, ⟨hk.1.1.2, ⟨hk.1.2, hk.2⟩⟩⟩⟩)), (by (with_reducible repeat (first | apply Kd.R_alloc | apply Kd.R_drewN | apply Kd.R_drew)); exact Kd.R_mono HO340.out (fun _ hk => ⟨hk.1.1.1.1, ⟨hk.1.1.1.2, ⟨hk.1.1.2, ⟨hk.1.2, hk.2⟩⟩⟩⟩)), (by (with_reducible repeat (first | apply Kd.R_alloc | apply Kd.R_drewN | apply Kd.R_drew)); exact Kd.R_mono HO344.out (fun _ hk => ⟨hk.1.1.1.1, ⟨hk.1.1.1.2, ⟨hk.1.1.2, ⟨hk.1.2, hk.2⟩⟩⟩⟩)), (by (with_reducible repeat (first | apply Kd.R_alloc | apply Kd.R_drewN | apply Kd.R_drew)); exact Kd.R_mono HO349.out (fun _ hk => ⟨hk.1.1.1.1.2, ⟨hk.1.1.1.2, ⟨hk.1.1.2, ⟨hk.1.2, hk.2⟩⟩⟩⟩)), (by (with_reducible repeat (first | apply Kd.R_alloc | apply Kd.R_drewN | apply Kd.R_drew)); exact Kd.R_mono HO353.out (fun _ hk => ⟨hk.1.1.1.1.2, ⟨hk.1.1.1.2, ⟨hk.1.1.2, ⟨hk.1.2, hk.2⟩⟩⟩⟩)), (by (with_reducible repeat (first | apply Kd.R_alloc | apply Kd.R_drewN | apply Kd.R_drew)); exact Kd.R_mono HO357.out (fun _ hk => ⟨hk.1.1.1.1.2, ⟨hk.1.1.1.2, ⟨hk.1.1.2, ⟨hk.1.2, hk.2⟩⟩⟩⟩)), (qb_ BK331.out), (qb_ BK345.out), (qb_ BK358.out), GW358.out, GE358.out, NB331_358.out, NB358_331.out, NB345_358.out, NB358_345.out, (q3_ HB.out GE331.out GE345.out GE358.out)⟩)
                        · skip
                          refine box_step ?hg (N := 14) ?hd (cs := #[.bool false, .slice none 0 0]) (t := 31) ?hr ?_; (case hd => rfl); (case hg => rfl); (case hr => first | (go_simp; done) | (go_simp; rfl))
                          intro gb358 hg w78 hbox hb
                          have n0_ := Aside0.mk (Kd.R_below (qr_ HO336.out) hb)
                          have n1_ := Aside0.mk (Kd.R_below (qr_ HO340.out) hb)
                          have n2_ := Aside0.mk (Kd.R_below (qr_ HO344.out) hb)
                          have n3_ := Aside0.mk (Kd.R_below (qr_ HO349.out) hb)
                          have n4_ := Aside0.mk (Kd.R_below (qr_ HO353.out) hb)
                          have n5_ := Aside0.mk (blk_below (g := gb331) (o := .cells #[.int .i64 t328, .int .i64 t329] 23 (0, 0)) (qb_ BK331.out) hb)
                          have n6_ := Aside0.mk (blk_below (g := gb345) (o := .cells #[.bool t341, .slice Ao73 t342.length co73] 31 (0, 0)) (qb_ BK345.out) hb)
                          have n7_ := Aside0.mk (below_step (q2_ HB.out GE331.out GE345.out) hb)
                          have n8_ := Aside0.mk (hbox)
                          have n9_ := Aside0.mk ((by rw [hg]; exact (below_size (q2_ HB.out GE331.out GE345.out)) : w.heap.size ≤ gb358))
                          have n10_ := Aside0.mk ((by rw [hg]; exact (below_size (q2_ HB.out GE331.out GE345.out)) : w.heap.size ≤ gb358))
                          have n11_ := Aside0.mk ((by rw [hg]; exact Nat.ne_of_lt (blk_lt (g := gb331) (o := .cells #[.int .i64 t328, .int .i64 t329] 23 (0, 0)) (qb_ BK331.out)) : gb331 ≠ gb358))
                          have n12_ := Aside0.mk ((by rw [hg]; exact Nat.ne_of_gt (blk_lt (g := gb331) (o := .cells #[.int .i64 t328, .int .i64 t329] 23 (0, 0)) (qb_ BK331.out)) : gb358 ≠ gb331))
                          have n13_ := Aside0.mk ((by rw [hg]; exact Nat.ne_of_lt (blk_lt (g := gb345) (o := .cells #[.bool t341, .slice Ao73 t342.length co73] 31 (0, 0)) (qb_ BK345.out)) : gb345 ≠ gb358))
                          have n14_ := Aside0.mk ((by rw [hg]; exact Nat.ne_of_gt (blk_lt (g := gb345) (o := .cells #[.bool t341, .slice Ao73 t342.length co73] 31 (0, 0)) (qb_ BK345.out)) : gb358 ≠ gb345))
                          clear HO336
                          clear HO340
                          clear HO344
                          clear HO349
                          clear HO353
                          clear BK331
                          clear BK345
                          clear HB
                          have HO336 := n0_
                          have HO340 := n1_
                          have HO344 := n2_
                          have HO349 := n3_
                          have HO353 := n4_
                          have BK331 := n5_
                          have BK345 := n6_
                          have HB := n7_
                          have BK358 := n8_
                          have GW358 := n9_
                          have GE358 := n10_
                          have NB331_358 := n11_
                          have NB358_331 := n12_
                          have NB345_358 := n13_
                          have NB358_345 := n14_
                          clear n0_ n1_ n2_ n3_ n4_ n5_ n6_ n7_ n8_ n9_ n10_ n11_ n12_ n13_ n14_
                          clear hb hbox hg
                          obtain ⟨Ao79, co79, eo79⟩ := Kd.R_slice HO349.out
                          (first | subst eo79 | (injection eo79 with f1_ f2_ f3_; have f4_ := f1_.symm; have f5_ := f3_.symm; clear f1_ f2_ f3_; subst f4_; subst f5_))
                          obtain ⟨Ao80, co80, eo80⟩ := Kd.R_slice HO353.out
                          (first | subst eo80 | (injection eo80 with f1_ f2_ f3_; have f4_ := f1_.symm; have f5_ := f3_.symm; clear f1_ f2_ f3_; subst f4_; subst f5_))
                          refine hK.out _ _ ⟨(blk_cell BK331.out 0).trans rfl, (blk_cell BK331.out 1).trans rfl⟩ (fun hHeld => ?_)
                          clear hK K
                          refine norm_ (a' := ?_) ?_ ?_
                          rotate_left
                          · show Act.put _ (some 14) _ = _
                            simp only [Act.put, List.setIfInBounds_toArray, List.set_cons_zero, List.set_cons_succ, i64_w, i32_w]
                            rfl
                          refine one_ (i := 8) (N := some 61) #[true, true, true, true, true, true, true, true, true, true, false] rfl rfl (one_of HT_.out (by kernel_rfl)) (by decide) (fun K hK => ?_)
                          refine goes_ Tryd.func22 (by kernel_rfl) rfl #[.agg #[.bool t346, .slice Ao79 t347.length co79], .agg #[.bool t350, .slice Ao80 t351.length co80]] (by rfl) rfl rfl qe_ ?_
                          with_reducible refine (merinoref01_Times.calls kj6 t346 _ _ t347 t350 _ _ t351 t354 t355 _ ?side1 ?side2 ?side3 ?side4 A23.out).mono ?_
                          (case side1 => exact qc_ (Kd.R_reads' HO349.out).2.2)
                          (case side2 => exact (Kd.R_reads' HO349.out).2.1)
                          (case side3 => exact qc_ (Kd.R_reads' HO353.out).2.2)
                          (case side4 => exact (Kd.R_reads' HO353.out).2.1)
                          rintro e w81 ⟨v356, rfl, ho0, hb⟩
                          refine ⟨_, rfl, ?_⟩
                          have n0_ := Aside0.mk (Kd.R_elder' (qr_ HO336.out) (Kd.R_base ho0) hb)
                          have n1_ := Aside0.mk (Kd.R_elder' (qr_ HO340.out) (Kd.R_base ho0) hb)
                          have n2_ := Aside0.mk (Kd.R_elder' (qr_ HO344.out) (Kd.R_base ho0) hb)
                          have n3_ := Aside0.mk (Kd.R_elder' (qr_ HO349.out) (Kd.R_base ho0) hb)
                          have n4_ := Aside0.mk (Kd.R_elder' (qr_ HO353.out) (Kd.R_base ho0) hb)
                          have n5_ := Aside0.mk (Kd.R_lower (Kd.R_new' (Kd.R_new' (Kd.R_new' (Kd.R_new' (Kd.R_new' ho0 (Kd.R_lt (qr_ HO336.out))) (Kd.R_lt (qr_ HO340.out))) (Kd.R_lt (qr_ HO344.out))) (Kd.R_lt (qr_ HO349.out))) (Kd.R_lt (qr_ HO353.out))) (below_size (q3_ HB.out GE331.out GE345.out GE358.out)))
                          have n6_ := Aside0.mk (blk_below (g := gb331) (o := .cells #[.int .i64 t328, .int .i64 t329] 23 (0, 0)) (qb_ BK331.out) hb)
                          have n7_ := Aside0.mk (blk_below (g := gb345) (o := .cells #[.bool t341, .slice Ao73 t342.length co73] 31 (0, 0)) (qb_ BK345.out) hb)
                          have n8_ := Aside0.mk (blk_below (g := gb358) (o := .cells #[.bool false, .slice none 0 0] 31 (0, 0)) (qb_ BK358.out) hb)
                          have n9_ := Aside0.mk (below_step (q3_ HB.out GE331.out GE345.out GE358.out) hb)
                          clear HO336
                          clear HO340
                          clear HO344
                          clear HO349
                          clear HO353
                          clear BK331
                          clear BK345
                          clear BK358
                          clear HB
                          have HO336 := n0_
                          have HO340 := n1_
                          have HO344 := n2_
                          have HO349 := n3_
                          have HO353 := n4_
                          have HO357 := n5_
                          have BK331 := n6_
                          have BK345 := n7_
                          have BK358 := n8_
                          have HB := n9_
                          clear n0_ n1_ n2_ n3_ n4_ n5_ n6_ n7_ n8_ n9_
                          (try clear hb)
                          (try clear hb2)
                          (try clear hk)
                          (try clear hi)
                          (try clear ho0)
                          refine hK.out _ _ ⟨(blk_cell BK331.out 0).trans rfl, (blk_cell BK331.out 1).trans rfl⟩ (fun hHeld => ?_)
                          clear hK K
                          refine norm_ (a' := ?_) ?_ ?_
                          rotate_left
                          · show Act.put _ (some 61) _ = _
                            simp only [Act.put, List.setIfInBounds_toArray, List.set_cons_zero, List.set_cons_succ, i64_w, i32_w]
                            rfl
                          exact norm_ (by simp only [putAll, Act.put, List.setIfInBounds_toArray, List.set_cons_zero, List.set_cons_succ]) (hCont (.slice Ao79 t347.length co79, .slice Ao80 t351.length co80, v356, gb358) _ ⟨hHeld, (by (with_reducible repeat (first | apply Kd.R_alloc | apply Kd.R_drewN | apply Kd.R_drew)); exact Kd.R_mono HO336.out (fun _ hk => ⟨hk.1.1.1.1, ⟨hk.1.1.1.2, ⟨hk.1.1.2, ⟨hk.1.2, hk.2⟩⟩⟩⟩)), (by (with_reducible repeat (first | apply Kd.R_alloc | apply Kd.R_drewN | apply Kd.R_drew)); exact Kd.R_mono HO340.out (fun _ hk => ⟨hk.1.1.1.1, ⟨hk.1.1.1.2, ⟨hk.1.1.2, ⟨hk.1.2, hk.2⟩⟩⟩⟩)), (by (with_reducible repeat (first | apply Kd.R_alloc | apply Kd.R_drewN | apply Kd.R_drew)); exact Kd.R_mono HO344.out (fun _ hk => ⟨hk.1.1.1.1, ⟨hk.1.1.1.2, ⟨hk.1.1.2, ⟨hk.1.2, hk.2⟩⟩⟩⟩)), (by (with_reducible repeat (first | apply Kd.R_alloc | apply Kd.R_drewN | apply Kd.R_drew)); exact Kd.R_mono HO349.out (fun _ hk => ⟨hk.1.1.1.1.2, ⟨hk.1.1.1.2, ⟨hk.1.1.2, ⟨hk.1.2, hk.2⟩⟩⟩⟩)), (by (with_reducible repeat (first | apply Kd.R_alloc | apply Kd.R_drewN | apply Kd.R_drew)); exact Kd.R_mono HO353.out (fun _ hk => ⟨hk.1.1.1.1.2, ⟨hk.1.1.1.2, ⟨hk.1.1.2, ⟨hk.1.2, hk.2⟩⟩⟩⟩)), (by (with_reducible repeat (first | apply Kd.R_alloc | apply Kd.R_drewN | apply Kd.R_drew)); exact Kd.R_mono HO357.out (fun _ hk => ⟨hk.1.1.1.1.2, ⟨hk.1.1.1.2, ⟨hk.1.1.2, ⟨hk.1.2, hk.2⟩⟩⟩⟩)), (qb_ BK331.out), (qb_ BK345.out), (qb_ BK358.out), GW358.out, GE358.out, NB331_358.out, NB358_331.out, NB345_358.out, NB358_345.out, (q3_ HB.out GE331.out GE345.out GE358.out)⟩)
                      · skip
                        refine box_step ?hg (N := 14) ?hd (cs := #[.bool false, .slice none 0 0]) (t := 31) ?hr ?_; (case hd => rfl); (case hg => rfl); (case hr => first | (go_simp; done) | (go_simp; rfl))
                        intro gb358 hg w77 hbox hb
                        have n0_ := Aside0.mk (Kd.R_below (qr_ HO336.out) hb)
                        have n1_ := Aside0.mk (Kd.R_below (qr_ HO340.out) hb)
                        have n2_ := Aside0.mk (Kd.R_below (qr_ HO344.out) hb)
                        have n3_ := Aside0.mk (Kd.R_below (qr_ HO349.out) hb)
                        have n4_ := Aside0.mk (blk_below (g := gb331) (o := .cells #[.int .i64 t328, .int .i64 t329] 23 (0, 0)) (qb_ BK331.out) hb)
                        have n5_ := Aside0.mk (blk_below (g := gb345) (o := .cells #[.bool t341, .slice Ao73 t342.length co73] 31 (0, 0)) (qb_ BK345.out) hb)
                        have n6_ := Aside0.mk (below_step (q2_ HB.out GE331.out GE345.out) hb)
                        have n7_ := Aside0.mk (hbox)
                        have n8_ := Aside0.mk ((by rw [hg]; exact (below_size (q2_ HB.out GE331.out GE345.out)) : w.heap.size ≤ gb358))
                        have n9_ := Aside0.mk ((by rw [hg]; exact (below_size (q2_ HB.out GE331.out GE345.out)) : w.heap.size ≤ gb358))
                        have n10_ := Aside0.mk ((by rw [hg]; exact Nat.ne_of_lt (blk_lt (g := gb331) (o := .cells #[.int .i64 t328, .int .i64 t329] 23 (0, 0)) (qb_ BK331.out)) : gb331 ≠ gb358))
                        have n11_ := Aside0.mk ((by rw [hg]; exact Nat.ne_of_gt (blk_lt (g := gb331) (o := .cells #[.int .i64 t328, .int .i64 t329] 23 (0, 0)) (qb_ BK331.out)) : gb358 ≠ gb331))
                        have n12_ := Aside0.mk ((by rw [hg]; exact Nat.ne_of_lt (blk_lt (g := gb345) (o := .cells #[.bool t341, .slice Ao73 t342.length co73] 31 (0, 0)) (qb_ BK345.out)) : gb345 ≠ gb358))
                        have n13_ := Aside0.mk ((by rw [hg]; exact Nat.ne_of_gt (blk_lt (g := gb345) (o := .cells #[.bool t341, .slice Ao73 t342.length co73] 31 (0, 0)) (qb_ BK345.out)) : gb358 ≠ gb345))
                        clear HO336
                        clear HO340
                        clear HO344
                        clear HO349
                        clear BK331
                        clear BK345
                        clear HB
                        have HO336 := n0_
                        have HO340 := n1_
                        have HO344 := n2_
                        have HO349 := n3_
                        have BK331 := n4_
                        have BK345 := n5_
                        have HB := n6_
                        have BK358 := n7_
                        have GW358 := n8_
                        have GE358 := n9_
                        have NB331_358 := n10_
                        have NB358_331 := n11_
                        have NB345_358 := n12_
                        have NB358_345 := n13_
                        clear n0_ n1_ n2_ n3_ n4_ n5_ n6_ n7_ n8_ n9_ n10_ n11_ n12_ n13_
                        clear hb hbox hg
                        refine hK.out _ _ ⟨(blk_cell BK331.out 0).trans rfl, (blk_cell BK331.out 1).trans rfl⟩ (fun hHeld => ?_)
                        clear hK K
                        refine norm_ (a' := ?_) ?_ ?_
                        rotate_left
                        · show Act.put _ (some 14) _ = _
                          simp only [Act.put, List.setIfInBounds_toArray, List.set_cons_zero, List.set_cons_succ, i64_w, i32_w]
                          rfl
                        refine one_ (i := 7) (N := some 60) #[true, true, true, true, true, true, true, true, false, true, false] rfl rfl (one_of HT_.out (by kernel_rfl)) (by decide) (fun K hK => ?_)
                        refine goes_ Tryd.func24 (by kernel_rfl) rfl #[.int .i64 t329] (by rfl) rfl rfl qe_ ?_
                        with_reducible refine (merinoref01_Of.calls kj6 t329 t350 t351 _ A22.out).mono ?_
                        rintro e w78 ⟨v352, rfl, ho0, hb⟩
                        refine ⟨_, rfl, ?_⟩
                        have n0_ := Aside0.mk (Kd.R_elder' (qr_ HO336.out) (Kd.R_base ho0) hb)
                        have n1_ := Aside0.mk (Kd.R_elder' (qr_ HO340.out) (Kd.R_base ho0) hb)
                        have n2_ := Aside0.mk (Kd.R_elder' (qr_ HO344.out) (Kd.R_base ho0) hb)
                        have n3_ := Aside0.mk (Kd.R_elder' (qr_ HO349.out) (Kd.R_base ho0) hb)
                        have n4_ := Aside0.mk (Kd.R_lower (Kd.R_new' (Kd.R_new' (Kd.R_new' (Kd.R_new' ho0 (Kd.R_lt (qr_ HO336.out))) (Kd.R_lt (qr_ HO340.out))) (Kd.R_lt (qr_ HO344.out))) (Kd.R_lt (qr_ HO349.out))) (below_size (q3_ HB.out GE331.out GE345.out GE358.out)))
                        have n5_ := Aside0.mk (blk_below (g := gb331) (o := .cells #[.int .i64 t328, .int .i64 t329] 23 (0, 0)) (qb_ BK331.out) hb)
                        have n6_ := Aside0.mk (blk_below (g := gb345) (o := .cells #[.bool t341, .slice Ao73 t342.length co73] 31 (0, 0)) (qb_ BK345.out) hb)
                        have n7_ := Aside0.mk (blk_below (g := gb358) (o := .cells #[.bool false, .slice none 0 0] 31 (0, 0)) (qb_ BK358.out) hb)
                        have n8_ := Aside0.mk (below_step (q3_ HB.out GE331.out GE345.out GE358.out) hb)
                        clear HO336
                        clear HO340
                        clear HO344
                        clear HO349
                        clear BK331
                        clear BK345
                        clear BK358
                        clear HB
                        have HO336 := n0_
                        have HO340 := n1_
                        have HO344 := n2_
                        have HO349 := n3_
                        have HO353 := n4_
                        have BK331 := n5_
                        have BK345 := n6_
                        have BK358 := n7_
                        have HB := n8_
                        clear n0_ n1_ n2_ n3_ n4_ n5_ n6_ n7_ n8_
                        (try clear hb)
                        (try clear hb2)
                        (try clear hk)
                        (try clear hi)
                        (try clear ho0)
                        obtain ⟨Ao79, co79, eo79⟩ := Kd.R_slice HO349.out
                        (first | subst eo79 | (injection eo79 with f1_ f2_ f3_; have f4_ := f1_.symm; have f5_ := f3_.symm; clear f1_ f2_ f3_; subst f4_; subst f5_))
                        obtain ⟨Ao80, co80, eo80⟩ := Kd.R_slice HO353.out
                        (first | subst eo80 | (injection eo80 with f1_ f2_ f3_; have f4_ := f1_.symm; have f5_ := f3_.symm; clear f1_ f2_ f3_; subst f4_; subst f5_))
                        refine hK.out _ _ ⟨(blk_cell BK331.out 0).trans rfl, (blk_cell BK331.out 1).trans rfl⟩ (fun hHeld => ?_)
                        clear hK K
                        refine norm_ (a' := ?_) ?_ ?_
                        rotate_left
                        · show Act.put _ (some 60) _ = _
                          simp only [Act.put, List.setIfInBounds_toArray, List.set_cons_zero, List.set_cons_succ, i64_w, i32_w]
                          rfl
                        refine one_ (i := 8) (N := some 61) #[true, true, true, true, true, true, true, true, true, true, false] rfl rfl (one_of HT_.out (by kernel_rfl)) (by decide) (fun K hK => ?_)
                        refine goes_ Tryd.func22 (by kernel_rfl) rfl #[.agg #[.bool t346, .slice Ao79 t347.length co79], .agg #[.bool t350, .slice Ao80 t351.length co80]] (by rfl) rfl rfl qe_ ?_
                        with_reducible refine (merinoref01_Times.calls kj6 t346 _ _ t347 t350 _ _ t351 t354 t355 _ ?side1 ?side2 ?side3 ?side4 A23.out).mono ?_
                        (case side1 => exact qc_ (Kd.R_reads' HO349.out).2.2)
                        (case side2 => exact (Kd.R_reads' HO349.out).2.1)
                        (case side3 => exact qc_ (Kd.R_reads' HO353.out).2.2)
                        (case side4 => exact (Kd.R_reads' HO353.out).2.1)
                        rintro e w81 ⟨v356, rfl, ho0, hb⟩
                        refine ⟨_, rfl, ?_⟩
                        have n0_ := Aside0.mk (Kd.R_elder' (qr_ HO336.out) (Kd.R_base ho0) hb)
                        have n1_ := Aside0.mk (Kd.R_elder' (qr_ HO340.out) (Kd.R_base ho0) hb)
                        have n2_ := Aside0.mk (Kd.R_elder' (qr_ HO344.out) (Kd.R_base ho0) hb)
                        have n3_ := Aside0.mk (Kd.R_elder' (qr_ HO349.out) (Kd.R_base ho0) hb)
                        have n4_ := Aside0.mk (Kd.R_elder' (qr_ HO353.out) (Kd.R_base ho0) hb)
                        have n5_ := Aside0.mk (Kd.R_lower (Kd.R_new' (Kd.R_new' (Kd.R_new' (Kd.R_new' (Kd.R_new' ho0 (Kd.R_lt (qr_ HO336.out))) (Kd.R_lt (qr_ HO340.out))) (Kd.R_lt (qr_ HO344.out))) (Kd.R_lt (qr_ HO349.out))) (Kd.R_lt (qr_ HO353.out))) (below_size (q3_ HB.out GE331.out GE345.out GE358.out)))
                        have n6_ := Aside0.mk (blk_below (g := gb331) (o := .cells #[.int .i64 t328, .int .i64 t329] 23 (0, 0)) (qb_ BK331.out) hb)
                        have n7_ := Aside0.mk (blk_below (g := gb345) (o := .cells #[.bool t341, .slice Ao73 t342.length co73] 31 (0, 0)) (qb_ BK345.out) hb)
                        have n8_ := Aside0.mk (blk_below (g := gb358) (o := .cells #[.bool false, .slice none 0 0] 31 (0, 0)) (qb_ BK358.out) hb)
                        have n9_ := Aside0.mk (below_step (q3_ HB.out GE331.out GE345.out GE358.out) hb)
                        clear HO336
                        clear HO340
                        clear HO344
                        clear HO349
                        clear HO353
                        clear BK331
                        clear BK345
                        clear BK358
                        clear HB
                        have HO336 := n0_
                        have HO340 := n1_
                        have HO344 := n2_
                        have HO349 := n3_
                        have HO353 := n4_
                        have HO357 := n5_
                        have BK331 := n6_
                        have BK345 := n7_
                        have BK358 := n8_
                        have HB := n9_
                        clear n0_ n1_ n2_ n3_ n4_ n5_ n6_ n7_ n8_ n9_
                        (try clear hb)
                        (try clear hb2)
                        (try clear hk)
                        (try clear hi)
                        (try clear ho0)
                        refine hK.out _ _ ⟨(blk_cell BK331.out 0).trans rfl, (blk_cell BK331.out 1).trans rfl⟩ (fun hHeld => ?_)
                        clear hK K
                        refine norm_ (a' := ?_) ?_ ?_
                        rotate_left
                        · show Act.put _ (some 61) _ = _
                          simp only [Act.put, List.setIfInBounds_toArray, List.set_cons_zero, List.set_cons_succ, i64_w, i32_w]
                          rfl
                        exact norm_ (by simp only [putAll, Act.put, List.setIfInBounds_toArray, List.set_cons_zero, List.set_cons_succ]) (hCont (.slice Ao79 t347.length co79, .slice Ao80 t351.length co80, v356, gb358) _ ⟨hHeld, (by (with_reducible repeat (first | apply Kd.R_alloc | apply Kd.R_drewN | apply Kd.R_drew)); exact Kd.R_mono HO336.out (fun _ hk => ⟨hk.1.1.1.1, ⟨hk.1.1.1.2, ⟨hk.1.1.2, ⟨hk.1.2, hk.2⟩⟩⟩⟩)), (by (with_reducible repeat (first | apply Kd.R_alloc | apply Kd.R_drewN | apply Kd.R_drew)); exact Kd.R_mono HO340.out (fun _ hk => ⟨hk.1.1.1.1, ⟨hk.1.1.1.2, ⟨hk.1.1.2, ⟨hk.1.2, hk.2⟩⟩⟩⟩)), (by (with_reducible repeat (first | apply Kd.R_alloc | apply Kd.R_drewN | apply Kd.R_drew)); exact Kd.R_mono HO344.out (fun _ hk => ⟨hk.1.1.1.1, ⟨hk.1.1.1.2, ⟨hk.1.1.2, ⟨hk.1.2, hk.2⟩⟩⟩⟩)), (by (with_reducible repeat (first | apply Kd.R_alloc | apply Kd.R_drewN | apply Kd.R_drew)); exact Kd.R_mono HO349.out (fun _ hk => ⟨hk.1.1.1.1.2, ⟨hk.1.1.1.2, ⟨hk.1.1.2, ⟨hk.1.2, hk.2⟩⟩⟩⟩)), (by (with_reducible repeat (first | apply Kd.R_alloc | apply Kd.R_drewN | apply Kd.R_drew)); exact Kd.R_mono HO353.out (fun _ hk => ⟨hk.1.1.1.1.2, ⟨hk.1.1.1.2, ⟨hk.1.1.2, ⟨hk.1.2, hk.2⟩⟩⟩⟩)), (by (with_reducible repeat (first | apply Kd.R_alloc | apply Kd.R_drewN | apply Kd.R_drew)); exact Kd.R_mono HO357.out (fun _ hk => ⟨hk.1.1.1.1.2, ⟨hk.1.1.1.2, ⟨hk.1.1.2, ⟨hk.1.2, hk.2⟩⟩⟩⟩)), (qb_ BK331.out), (qb_ BK345.out), (qb_ BK358.out), GW358.out, GE358.out, NB331_358.out, NB358_331.out, NB345_358.out, NB358_345.out, (q3_ HB.out GE331.out GE345.out GE358.out)⟩)
                    · skip
                      refine box_step ?hg (N := 14) ?hd (cs := #[.bool false, .slice none 0 0]) (t := 31) ?hr ?_; (case hd => rfl); (case hg => rfl); (case hr => first | (go_simp; done) | (go_simp; rfl))
                      intro gb358 hg w76 hbox hb
                      have n0_ := Aside0.mk (Kd.R_below (qr_ HO336.out) hb)
                      have n1_ := Aside0.mk (Kd.R_below (qr_ HO340.out) hb)
                      have n2_ := Aside0.mk (Kd.R_below (qr_ HO344.out) hb)
                      have n3_ := Aside0.mk (blk_below (g := gb331) (o := .cells #[.int .i64 t328, .int .i64 t329] 23 (0, 0)) (qb_ BK331.out) hb)
                      have n4_ := Aside0.mk (blk_below (g := gb345) (o := .cells #[.bool t341, .slice Ao73 t342.length co73] 31 (0, 0)) (qb_ BK345.out) hb)
                      have n5_ := Aside0.mk (below_step (q2_ HB.out GE331.out GE345.out) hb)
                      have n6_ := Aside0.mk (hbox)
                      have n7_ := Aside0.mk ((by rw [hg]; exact (below_size (q2_ HB.out GE331.out GE345.out)) : w.heap.size ≤ gb358))
                      have n8_ := Aside0.mk ((by rw [hg]; exact (below_size (q2_ HB.out GE331.out GE345.out)) : w.heap.size ≤ gb358))
                      have n9_ := Aside0.mk ((by rw [hg]; exact Nat.ne_of_lt (blk_lt (g := gb331) (o := .cells #[.int .i64 t328, .int .i64 t329] 23 (0, 0)) (qb_ BK331.out)) : gb331 ≠ gb358))
                      have n10_ := Aside0.mk ((by rw [hg]; exact Nat.ne_of_gt (blk_lt (g := gb331) (o := .cells #[.int .i64 t328, .int .i64 t329] 23 (0, 0)) (qb_ BK331.out)) : gb358 ≠ gb331))
                      have n11_ := Aside0.mk ((by rw [hg]; exact Nat.ne_of_lt (blk_lt (g := gb345) (o := .cells #[.bool t341, .slice Ao73 t342.length co73] 31 (0, 0)) (qb_ BK345.out)) : gb345 ≠ gb358))
                      have n12_ := Aside0.mk ((by rw [hg]; exact Nat.ne_of_gt (blk_lt (g := gb345) (o := .cells #[.bool t341, .slice Ao73 t342.length co73] 31 (0, 0)) (qb_ BK345.out)) : gb358 ≠ gb345))
                      clear HO336
                      clear HO340
                      clear HO344
                      clear BK331
                      clear BK345
                      clear HB
                      have HO336 := n0_
                      have HO340 := n1_
                      have HO344 := n2_
                      have BK331 := n3_
                      have BK345 := n4_
                      have HB := n5_
                      have BK358 := n6_
                      have GW358 := n7_
                      have GE358 := n8_
                      have NB331_358 := n9_
                      have NB358_331 := n10_
                      have NB345_358 := n11_
                      have NB358_345 := n12_
                      clear n0_ n1_ n2_ n3_ n4_ n5_ n6_ n7_ n8_ n9_ n10_ n11_ n12_
                      clear hb hbox hg
                      refine hK.out _ _ ⟨(blk_cell BK331.out 0).trans rfl, (blk_cell BK331.out 1).trans rfl⟩ (fun hHeld => ?_)
                      clear hK K
                      refine norm_ (a' := ?_) ?_ ?_
                      rotate_left
                      · show Act.put _ (some 14) _ = _
                        simp only [Act.put, List.setIfInBounds_toArray, List.set_cons_zero, List.set_cons_succ, i64_w, i32_w]
                        rfl
                      refine one_ (i := 4) (N := some 57) #[true, true, true, true, true, true, true, false, false, true, false] rfl rfl (one_of HT_.out (by kernel_rfl)) (by decide) (fun K hK => ?_)
                      refine goes_ Tryd.func23 (by kernel_rfl) rfl #[.int .i64 a0, .int .i64 a1, .int .i64 a3, .int .i64 a4] (by rfl) rfl rfl qe_ ?_
                      with_reducible refine (merinolaw01_off.calls kj6 a0 a1 a3 a4 t346 t347 _ A21.out).mono ?_
                      rintro e w77 ⟨v348, rfl, ho0, hb⟩
                      refine ⟨_, rfl, ?_⟩
                      have n0_ := Aside0.mk (Kd.R_elder' (qr_ HO336.out) (Kd.R_base ho0) hb)
                      have n1_ := Aside0.mk (Kd.R_elder' (qr_ HO340.out) (Kd.R_base ho0) hb)
                      have n2_ := Aside0.mk (Kd.R_elder' (qr_ HO344.out) (Kd.R_base ho0) hb)
                      have n3_ := Aside0.mk (Kd.R_lower (Kd.R_new' (Kd.R_new' (Kd.R_new' ho0 (Kd.R_lt (qr_ HO336.out))) (Kd.R_lt (qr_ HO340.out))) (Kd.R_lt (qr_ HO344.out))) (below_size (q3_ HB.out GE331.out GE345.out GE358.out)))
                      have n4_ := Aside0.mk (blk_below (g := gb331) (o := .cells #[.int .i64 t328, .int .i64 t329] 23 (0, 0)) (qb_ BK331.out) hb)
                      have n5_ := Aside0.mk (blk_below (g := gb345) (o := .cells #[.bool t341, .slice Ao73 t342.length co73] 31 (0, 0)) (qb_ BK345.out) hb)
                      have n6_ := Aside0.mk (blk_below (g := gb358) (o := .cells #[.bool false, .slice none 0 0] 31 (0, 0)) (qb_ BK358.out) hb)
                      have n7_ := Aside0.mk (below_step (q3_ HB.out GE331.out GE345.out GE358.out) hb)
                      clear HO336
                      clear HO340
                      clear HO344
                      clear BK331
                      clear BK345
                      clear BK358
                      clear HB
                      have HO336 := n0_
                      have HO340 := n1_
                      have HO344 := n2_
                      have HO349 := n3_
                      have BK331 := n4_
                      have BK345 := n5_
                      have BK358 := n6_
                      have HB := n7_
                      clear n0_ n1_ n2_ n3_ n4_ n5_ n6_ n7_
                      (try clear hb)
                      (try clear hb2)
                      (try clear hk)
                      (try clear hi)
                      (try clear ho0)
                      refine hK.out _ _ ⟨(blk_cell BK331.out 0).trans rfl, (blk_cell BK331.out 1).trans rfl⟩ (fun hHeld => ?_)
                      clear hK K
                      refine norm_ (a' := ?_) ?_ ?_
                      rotate_left
                      · show Act.put _ (some 57) _ = _
                        simp only [Act.put, List.setIfInBounds_toArray, List.set_cons_zero, List.set_cons_succ, i64_w, i32_w]
                        rfl
                      refine one_ (i := 7) (N := some 60) #[true, true, true, true, true, true, true, true, false, true, false] rfl rfl (one_of HT_.out (by kernel_rfl)) (by decide) (fun K hK => ?_)
                      refine goes_ Tryd.func24 (by kernel_rfl) rfl #[.int .i64 t329] (by rfl) rfl rfl qe_ ?_
                      with_reducible refine (merinoref01_Of.calls kj6 t329 t350 t351 _ A22.out).mono ?_
                      rintro e w78 ⟨v352, rfl, ho0, hb⟩
                      refine ⟨_, rfl, ?_⟩
                      have n0_ := Aside0.mk (Kd.R_elder' (qr_ HO336.out) (Kd.R_base ho0) hb)
                      have n1_ := Aside0.mk (Kd.R_elder' (qr_ HO340.out) (Kd.R_base ho0) hb)
                      have n2_ := Aside0.mk (Kd.R_elder' (qr_ HO344.out) (Kd.R_base ho0) hb)
                      have n3_ := Aside0.mk (Kd.R_elder' (qr_ HO349.out) (Kd.R_base ho0) hb)
                      have n4_ := Aside0.mk (Kd.R_lower (Kd.R_new' (Kd.R_new' (Kd.R_new' (Kd.R_new' ho0 (Kd.R_lt (qr_ HO336.out))) (Kd.R_lt (qr_ HO340.out))) (Kd.R_lt (qr_ HO344.out))) (Kd.R_lt (qr_ HO349.out))) (below_size (q3_ HB.out GE331.out GE345.out GE358.out)))
                      have n5_ := Aside0.mk (blk_below (g := gb331) (o := .cells #[.int .i64 t328, .int .i64 t329] 23 (0, 0)) (qb_ BK331.out) hb)
                      have n6_ := Aside0.mk (blk_below (g := gb345) (o := .cells #[.bool t341, .slice Ao73 t342.length co73] 31 (0, 0)) (qb_ BK345.out) hb)
                      have n7_ := Aside0.mk (blk_below (g := gb358) (o := .cells #[.bool false, .slice none 0 0] 31 (0, 0)) (qb_ BK358.out) hb)
                      have n8_ := Aside0.mk (below_step (q3_ HB.out GE331.out GE345.out GE358.out) hb)
                      clear HO336
                      clear HO340
                      clear HO344
                      clear HO349
                      clear BK331
                      clear BK345
                      clear BK358
                      clear HB
                      have HO336 := n0_
                      have HO340 := n1_
                      have HO344 := n2_
                      have HO349 := n3_
                      have HO353 := n4_
                      have BK331 := n5_
                      have BK345 := n6_
                      have BK358 := n7_
                      have HB := n8_
                      clear n0_ n1_ n2_ n3_ n4_ n5_ n6_ n7_ n8_
                      (try clear hb)
                      (try clear hb2)
                      (try clear hk)
                      (try clear hi)
                      (try clear ho0)
                      obtain ⟨Ao79, co79, eo79⟩ := Kd.R_slice HO349.out
                      (first | subst eo79 | (injection eo79 with f1_ f2_ f3_; have f4_ := f1_.symm; have f5_ := f3_.symm; clear f1_ f2_ f3_; subst f4_; subst f5_))
                      obtain ⟨Ao80, co80, eo80⟩ := Kd.R_slice HO353.out
                      (first | subst eo80 | (injection eo80 with f1_ f2_ f3_; have f4_ := f1_.symm; have f5_ := f3_.symm; clear f1_ f2_ f3_; subst f4_; subst f5_))
                      refine hK.out _ _ ⟨(blk_cell BK331.out 0).trans rfl, (blk_cell BK331.out 1).trans rfl⟩ (fun hHeld => ?_)
                      clear hK K
                      refine norm_ (a' := ?_) ?_ ?_
                      rotate_left
                      · show Act.put _ (some 60) _ = _
                        simp only [Act.put, List.setIfInBounds_toArray, List.set_cons_zero, List.set_cons_succ, i64_w, i32_w]
                        rfl
                      refine one_ (i := 8) (N := some 61) #[true, true, true, true, true, true, true, true, true, true, false] rfl rfl (one_of HT_.out (by kernel_rfl)) (by decide) (fun K hK => ?_)
                      refine goes_ Tryd.func22 (by kernel_rfl) rfl #[.agg #[.bool t346, .slice Ao79 t347.length co79], .agg #[.bool t350, .slice Ao80 t351.length co80]] (by rfl) rfl rfl qe_ ?_
                      with_reducible refine (merinoref01_Times.calls kj6 t346 _ _ t347 t350 _ _ t351 t354 t355 _ ?side1 ?side2 ?side3 ?side4 A23.out).mono ?_
                      (case side1 => exact qc_ (Kd.R_reads' HO349.out).2.2)
                      (case side2 => exact (Kd.R_reads' HO349.out).2.1)
                      (case side3 => exact qc_ (Kd.R_reads' HO353.out).2.2)
                      (case side4 => exact (Kd.R_reads' HO353.out).2.1)
                      rintro e w81 ⟨v356, rfl, ho0, hb⟩
                      refine ⟨_, rfl, ?_⟩
                      have n0_ := Aside0.mk (Kd.R_elder' (qr_ HO336.out) (Kd.R_base ho0) hb)
                      have n1_ := Aside0.mk (Kd.R_elder' (qr_ HO340.out) (Kd.R_base ho0) hb)
                      have n2_ := Aside0.mk (Kd.R_elder' (qr_ HO344.out) (Kd.R_base ho0) hb)
                      have n3_ := Aside0.mk (Kd.R_elder' (qr_ HO349.out) (Kd.R_base ho0) hb)
                      have n4_ := Aside0.mk (Kd.R_elder' (qr_ HO353.out) (Kd.R_base ho0) hb)
                      have n5_ := Aside0.mk (Kd.R_lower (Kd.R_new' (Kd.R_new' (Kd.R_new' (Kd.R_new' (Kd.R_new' ho0 (Kd.R_lt (qr_ HO336.out))) (Kd.R_lt (qr_ HO340.out))) (Kd.R_lt (qr_ HO344.out))) (Kd.R_lt (qr_ HO349.out))) (Kd.R_lt (qr_ HO353.out))) (below_size (q3_ HB.out GE331.out GE345.out GE358.out)))
                      have n6_ := Aside0.mk (blk_below (g := gb331) (o := .cells #[.int .i64 t328, .int .i64 t329] 23 (0, 0)) (qb_ BK331.out) hb)
                      have n7_ := Aside0.mk (blk_below (g := gb345) (o := .cells #[.bool t341, .slice Ao73 t342.length co73] 31 (0, 0)) (qb_ BK345.out) hb)
                      have n8_ := Aside0.mk (blk_below (g := gb358) (o := .cells #[.bool false, .slice none 0 0] 31 (0, 0)) (qb_ BK358.out) hb)
                      have n9_ := Aside0.mk (below_step (q3_ HB.out GE331.out GE345.out GE358.out) hb)
                      clear HO336
                      clear HO340
                      clear HO344
                      clear HO349
                      clear HO353
                      clear BK331
                      clear BK345
                      clear BK358
                      clear HB
                      have HO336 := n0_
                      have HO340 := n1_
                      have HO344 := n2_
                      have HO349 := n3_
                      have HO353 := n4_
                      have HO357 := n5_
                      have BK331 := n6_
                      have BK345 := n7_
                      have BK358 := n8_
                      have HB := n9_
                      clear n0_ n1_ n2_ n3_ n4_ n5_ n6_ n7_ n8_ n9_
                      (try clear hb)
                      (try clear hb2)
                      (try clear hk)
                      (try clear hi)
                      (try clear ho0)
                      refine hK.out _ _ ⟨(blk_cell BK331.out 0).trans rfl, (blk_cell BK331.out 1).trans rfl⟩ (fun hHeld => ?_)
                      clear hK K
                      refine norm_ (a' := ?_) ?_ ?_
                      rotate_left
                      · show Act.put _ (some 61) _ = _
                        simp only [Act.put, List.setIfInBounds_toArray, List.set_cons_zero, List.set_cons_succ, i64_w, i32_w]
                        rfl
                      exact norm_ (by simp only [putAll, Act.put, List.setIfInBounds_toArray, List.set_cons_zero, List.set_cons_succ]) (hCont (.slice Ao79 t347.length co79, .slice Ao80 t351.length co80, v356, gb358) _ ⟨hHeld, (by (with_reducible repeat (first | apply Kd.R_alloc | apply Kd.R_drewN | apply Kd.R_drew)); exact Kd.R_mono HO336.out (fun _ hk => ⟨hk.1.1.1.1, ⟨hk.1.1.1.2, ⟨hk.1.1.2, ⟨hk.1.2, hk.2⟩⟩⟩⟩)), (by (with_reducible repeat (first | apply Kd.R_alloc | apply Kd.R_drewN | apply Kd.R_drew)); exact Kd.R_mono HO340.out (fun _ hk => ⟨hk.1.1.1.1, ⟨hk.1.1.1.2, ⟨hk.1.1.2, ⟨hk.1.2, hk.2⟩⟩⟩⟩)), (by (with_reducible repeat (first | apply Kd.R_alloc | apply Kd.R_drewN | apply Kd.R_drew)); exact Kd.R_mono HO344.out (fun _ hk => ⟨hk.1.1.1.1, ⟨hk.1.1.1.2, ⟨hk.1.1.2, ⟨hk.1.2, hk.2⟩⟩⟩⟩)), (by (with_reducible repeat (first | apply Kd.R_alloc | apply Kd.R_drewN | apply Kd.R_drew)); exact Kd.R_mono HO349.out (fun _ hk => ⟨hk.1.1.1.1.2, ⟨hk.1.1.1.2, ⟨hk.1.1.2, ⟨hk.1.2, hk.2⟩⟩⟩⟩)), (by (with_reducible repeat (first | apply Kd.R_alloc | apply Kd.R_drewN | apply Kd.R_drew)); exact Kd.R_mono HO353.out (fun _ hk => ⟨hk.1.1.1.1.2, ⟨hk.1.1.1.2, ⟨hk.1.1.2, ⟨hk.1.2, hk.2⟩⟩⟩⟩)), (by (with_reducible repeat (first | apply Kd.R_alloc | apply Kd.R_drewN | apply Kd.R_drew)); exact Kd.R_mono HO357.out (fun _ hk => ⟨hk.1.1.1.1.2, ⟨hk.1.1.1.2, ⟨hk.1.1.2, ⟨hk.1.2, hk.2⟩⟩⟩⟩)), (qb_ BK331.out), (qb_ BK345.out), (qb_ BK358.out), GW358.out, GE358.out, NB331_358.out, NB358_331.out, NB345_358.out, NB358_345.out, (q3_ HB.out GE331.out GE345.out GE358.out)⟩)
                  rintro ⟨v348, v352, v356, gb358⟩ w82 ⟨hS_, h0_, h1_, h2_, h3_, h4_, h5_, h6_, h7_, h8_, h9_, h10_, h11_, h12_, h13_, h14_, h15_⟩
                  have n0_ : Aside0 (Kd.R (Kd.int .i64) 3 w82 w.heap.size (fun k_ => some k_ ≠ (.slice Ao68 t338.length co68 : Value).ownBlock ∧ some k_ ≠ (.slice Ao73 t342.length co73 : Value).ownBlock ∧ some k_ ≠ (v348 : Value).ownBlock ∧ some k_ ≠ (v352 : Value).ownBlock ∧ some k_ ≠ (v356 : Value).ownBlock) (.slice Ao67 t334.length co67) t334) := ⟨h0_⟩
                  have n1_ : Aside0 (Kd.R (Kd.int .i64) 3 w82 w.heap.size (fun k_ => some k_ ≠ (.slice Ao67 t334.length co67 : Value).ownBlock ∧ some k_ ≠ (.slice Ao73 t342.length co73 : Value).ownBlock ∧ some k_ ≠ (v348 : Value).ownBlock ∧ some k_ ≠ (v352 : Value).ownBlock ∧ some k_ ≠ (v356 : Value).ownBlock) (.slice Ao68 t338.length co68) t338) := ⟨h1_⟩
                  have n2_ : Aside0 (Kd.R (Kd.int .i64) 3 w82 w.heap.size (fun k_ => some k_ ≠ (.slice Ao67 t334.length co67 : Value).ownBlock ∧ some k_ ≠ (.slice Ao68 t338.length co68 : Value).ownBlock ∧ some k_ ≠ (v348 : Value).ownBlock ∧ some k_ ≠ (v352 : Value).ownBlock ∧ some k_ ≠ (v356 : Value).ownBlock) (.slice Ao73 t342.length co73) t342) := ⟨h2_⟩
                  have n3_ : Aside0 (Kd.R (Kd.int .i64) 3 w82 w.heap.size (fun k_ => some k_ ≠ (.slice Ao67 t334.length co67 : Value).ownBlock ∧ some k_ ≠ (.slice Ao68 t338.length co68 : Value).ownBlock ∧ some k_ ≠ (.slice Ao73 t342.length co73 : Value).ownBlock ∧ some k_ ≠ (v352 : Value).ownBlock ∧ some k_ ≠ (v356 : Value).ownBlock) v348 t347) := ⟨h3_⟩
                  have n4_ : Aside0 (Kd.R (Kd.int .i64) 3 w82 w.heap.size (fun k_ => some k_ ≠ (.slice Ao67 t334.length co67 : Value).ownBlock ∧ some k_ ≠ (.slice Ao68 t338.length co68 : Value).ownBlock ∧ some k_ ≠ (.slice Ao73 t342.length co73 : Value).ownBlock ∧ some k_ ≠ (v348 : Value).ownBlock ∧ some k_ ≠ (v356 : Value).ownBlock) v352 t351) := ⟨h4_⟩
                  have n5_ : Aside0 (Kd.R (Kd.int .i64) 3 w82 w.heap.size (fun k_ => some k_ ≠ (.slice Ao67 t334.length co67 : Value).ownBlock ∧ some k_ ≠ (.slice Ao68 t338.length co68 : Value).ownBlock ∧ some k_ ≠ (.slice Ao73 t342.length co73 : Value).ownBlock ∧ some k_ ≠ (v348 : Value).ownBlock ∧ some k_ ≠ (v352 : Value).ownBlock) v356 t355) := ⟨h5_⟩
                  have n6_ : Aside0 (w82.heap[gb331]? = some (.cells #[.int .i64 t328, .int .i64 t329] 23 (0, 0))) := ⟨h6_⟩
                  have n7_ : Aside0 (w82.heap[gb345]? = some (.cells #[.bool t341, .slice Ao73 t342.length co73] 31 (0, 0))) := ⟨h7_⟩
                  have n8_ : Aside0 (w82.heap[gb358]? = some (.cells #[.bool false, .slice none 0 0] 31 (0, 0))) := ⟨h8_⟩
                  have n9_ : Aside0 (w.heap.size ≤ gb358) := ⟨h9_⟩
                  have n10_ : Aside0 (w.heap.size ≤ gb358) := ⟨h10_⟩
                  have n11_ : Aside0 (gb331 ≠ gb358) := ⟨h11_⟩
                  have n12_ : Aside0 (gb358 ≠ gb331) := ⟨h12_⟩
                  have n13_ : Aside0 (gb345 ≠ gb358) := ⟨h13_⟩
                  have n14_ : Aside0 (gb358 ≠ gb345) := ⟨h14_⟩
                  have n15_ : Aside0 (Below w.heap.size w w82) := ⟨h15_⟩
                  clear HO336
                  clear HO340
                  clear HO344
                  clear BK331
                  clear BK345
                  clear HB
                  clear h0_ h1_ h2_ h3_ h4_ h5_ h6_ h7_ h8_ h9_ h10_ h11_ h12_ h13_ h14_ h15_
                  have HO336 := n0_
                  have HO340 := n1_
                  have HO344 := n2_
                  have HO349 := n3_
                  have HO353 := n4_
                  have HO357 := n5_
                  have BK331 := n6_
                  have BK345 := n7_
                  have BK358 := n8_
                  have GW358 := n9_
                  have GE358 := n10_
                  have NB331_358 := n11_
                  have NB358_331 := n12_
                  have NB345_358 := n13_
                  have NB358_345 := n14_
                  have HB := n15_
                  clear n0_ n1_ n2_ n3_ n4_ n5_ n6_ n7_ n8_ n9_ n10_ n11_ n12_ n13_ n14_ n15_
                  have hHeld : w82.cell? ⟨gb331, 0, none⟩ = some (.int .i64 t328) ∧ w82.cell? ⟨gb331, 1, none⟩ = some (.int .i64 t329) := hS_
                  obtain ⟨Ao84, co84, eo84⟩ := Kd.R_slice HO357.out
                  (first | subst eo84 | (injection eo84 with f1_ f2_ f3_; have f4_ := f1_.symm; have f5_ := f3_.symm; clear f1_ f2_ f3_; subst f4_; subst f5_))
                  refine norm_ (a' := ?_) ?_ ?_
                  rotate_left
                  · simp only [putAll, Act.put, List.setIfInBounds_toArray, List.set_cons_zero, List.set_cons_succ]
                    rfl
                  refine one_ (i := 10) (N := none) #[true, true, true, true, true, true, true, true, true, true, true] rfl rfl (one_of HT_.out (by kernel_rfl)) (by decide) (fun K hK => ?_)
                  have hs83 : w82.cell? ⟨gb358, 0, none⟩ = some (.bool false) := (blk_cell BK358.out 0).trans rfl
                  have hfs83 := blk_frozen BK358.out 0
                  have hns83_0 := NB331_358.out
                  have hns83_1 := NB345_358.out
                  have hms83_0 := NB358_331.out
                  have hms83_1 := NB358_345.out
                  have hs85 : w82.cell? ⟨gb358, 1, none⟩ = some (.slice none 0 0) := (blk_cell BK358.out 1).trans rfl
                  have hfs85 := blk_frozen BK358.out 1
                  have hns85_0 := NB331_358.out
                  have hns85_1 := NB345_358.out
                  have hms85_0 := NB358_331.out
                  have hms85_1 := NB358_345.out
                  refine skip_ (w1 := ?_) (by rfl) rfl ?_ ?_
                  rotate_left
                  · go_simp
                    rfl
                  refine hK.out _ _ ⟨((cell_far (p := ⟨gb358, _, none⟩) NB331_358.out _).trans (((cell_far (p := ⟨gb358, _, none⟩) NB331_358.out _).trans (hHeld.1)))), ((cell_far (p := ⟨gb358, _, none⟩) NB331_358.out _).trans (((cell_far (p := ⟨gb358, _, none⟩) NB331_358.out _).trans (hHeld.2))))⟩ (fun hHeld => ?_)
                  clear hK K
                  refine done_ (done_of HT_.out (by kernel_rfl)) ?_
                  have hnb86 := NB345_358.out
                  have hnc86 := NB358_345.out
                  have hcz87_0 : w82.cell? ⟨gb345, 0, none⟩ = some (.bool t341) := (blk_cell BK345.out 0).trans rfl
                  have hcz87_1 : w82.cell? ⟨gb345, 1, none⟩ = some (.slice Ao73 t342.length co73) := (blk_cell BK345.out 1).trans rfl
                  have hfz87_0 := blk_frozen BK345.out 0
                  have hfz87_1 := blk_frozen BK345.out 1
                  have hnb88 := NB358_331.out
                  have hnc88 := NB331_358.out
                  have hcz89_0 : w82.cell? ⟨gb358, 0, none⟩ = some (.bool false) := (blk_cell BK358.out 0).trans rfl
                  have hcz89_1 : w82.cell? ⟨gb358, 1, none⟩ = some (.slice none 0 0) := (blk_cell BK358.out 1).trans rfl
                  have hfz89_0 := blk_frozen BK358.out 0
                  have hfz89_1 := blk_frozen BK358.out 1
                  try go_wp2_with (first | ((with_reducible refine gate_callee (f := 25) rfl ?_); refine goesL_ (some 64) rfl rfl Tryd.func25 (by kernel_rfl) rfl #[.agg #[.bool t341, .slice Ao73 t342.length co73], .agg #[.bool t354, .slice Ao84 t355.length co84]] rfl qe_ ?_; (with_reducible refine (merinoref01_Compare.calls kj6 t341 _ _ t342 t354 _ _ t355 t359 _ ?side1 ?side2 ?side3 ?side4 A24.out).mono ?_); (case side1 => refine (Kd.R_reads' (e := 3) (base := w.heap.size) (ok := fun k_ => (some k_ ≠ (.slice Ao67 t334.length co67 : Value).ownBlock ∧ (some k_ ≠ (.slice Ao68 t338.length co68 : Value).ownBlock ∧ (some k_ ≠ (v348 : Value).ownBlock ∧ (some k_ ≠ (v352 : Value).ownBlock ∧ some k_ ≠ (.slice Ao84 t355.length co84 : Value).ownBlock))))) (n := t342.length) (c := co73) ?_).2.2; exact (by (with_reducible repeat (first | apply Kd.R_alloc | apply Kd.R_drewN | apply Kd.R_drew)); exact (Kd.R_mono (Kd.R_far (p := ⟨gb358, 1, none⟩) (Kd.R_far (p := ⟨gb358, 0, none⟩) (Kd.R_types HO344.out BK358.out (by decide)) (fun _ hk => hk.2) (.bool t354)) (fun _ hk => hk.2) (.slice Ao84 t355.length co84)) (fun _ h_ => h_.1)))); (case side2 => exact (Kd.R_reads' HO344.out).2.1); (case side3 => refine (Kd.R_reads' (e := 3) (base := w.heap.size) (ok := fun k_ => (some k_ ≠ (.slice Ao67 t334.length co67 : Value).ownBlock ∧ (some k_ ≠ (.slice Ao68 t338.length co68 : Value).ownBlock ∧ (some k_ ≠ (.slice Ao73 t342.length co73 : Value).ownBlock ∧ (some k_ ≠ (v348 : Value).ownBlock ∧ some k_ ≠ (v352 : Value).ownBlock))))) (n := t355.length) (c := co84) ?_).2.2; exact (by (with_reducible repeat (first | apply Kd.R_alloc | apply Kd.R_drewN | apply Kd.R_drew)); exact (Kd.R_mono (Kd.R_far (p := ⟨gb358, 1, none⟩) (Kd.R_far (p := ⟨gb358, 0, none⟩) (Kd.R_types HO357.out BK358.out (by decide)) (fun _ hk => hk.2) (.bool t354)) (fun _ hk => hk.2) (.slice Ao84 t355.length co84)) (fun _ h_ => h_.1)))); (case side4 => exact (Kd.R_reads' HO357.out).2.1); rintro e w90 ⟨rfl, hb⟩; refine ⟨_, rfl, ?_⟩; have n0_ := Aside0.mk (Kd.R_below (by (with_reducible repeat (first | apply Kd.R_alloc | apply Kd.R_drewN | apply Kd.R_drew)); exact (Kd.R_mono (Kd.R_far (p := ⟨gb358, 1, none⟩) (Kd.R_far (p := ⟨gb358, 0, none⟩) (Kd.R_types HO336.out BK358.out (by decide)) (fun _ hk => hk.2) (.bool t354)) (fun _ hk => hk.2) (.slice Ao84 t355.length co84)) (fun _ h_ => h_.1))) hb); have n1_ := Aside0.mk (Kd.R_below (by (with_reducible repeat (first | apply Kd.R_alloc | apply Kd.R_drewN | apply Kd.R_drew)); exact (Kd.R_mono (Kd.R_far (p := ⟨gb358, 1, none⟩) (Kd.R_far (p := ⟨gb358, 0, none⟩) (Kd.R_types HO340.out BK358.out (by decide)) (fun _ hk => hk.2) (.bool t354)) (fun _ hk => hk.2) (.slice Ao84 t355.length co84)) (fun _ h_ => h_.1))) hb); have n2_ := Aside0.mk (Kd.R_below (by (with_reducible repeat (first | apply Kd.R_alloc | apply Kd.R_drewN | apply Kd.R_drew)); exact (Kd.R_mono (Kd.R_far (p := ⟨gb358, 1, none⟩) (Kd.R_far (p := ⟨gb358, 0, none⟩) (Kd.R_types HO344.out BK358.out (by decide)) (fun _ hk => hk.2) (.bool t354)) (fun _ hk => hk.2) (.slice Ao84 t355.length co84)) (fun _ h_ => h_.1))) hb); have n3_ := Aside0.mk (Kd.R_below (by (with_reducible repeat (first | apply Kd.R_alloc | apply Kd.R_drewN | apply Kd.R_drew)); exact (Kd.R_mono (Kd.R_far (p := ⟨gb358, 1, none⟩) (Kd.R_far (p := ⟨gb358, 0, none⟩) (Kd.R_types HO349.out BK358.out (by decide)) (fun _ hk => hk.2) (.bool t354)) (fun _ hk => hk.2) (.slice Ao84 t355.length co84)) (fun _ h_ => h_.1))) hb); have n4_ := Aside0.mk (Kd.R_below (by (with_reducible repeat (first | apply Kd.R_alloc | apply Kd.R_drewN | apply Kd.R_drew)); exact (Kd.R_mono (Kd.R_far (p := ⟨gb358, 1, none⟩) (Kd.R_far (p := ⟨gb358, 0, none⟩) (Kd.R_types HO353.out BK358.out (by decide)) (fun _ hk => hk.2) (.bool t354)) (fun _ hk => hk.2) (.slice Ao84 t355.length co84)) (fun _ h_ => h_.1))) hb); have n5_ := Aside0.mk (Kd.R_below (by (with_reducible repeat (first | apply Kd.R_alloc | apply Kd.R_drewN | apply Kd.R_drew)); exact (Kd.R_mono (Kd.R_far (p := ⟨gb358, 1, none⟩) (Kd.R_far (p := ⟨gb358, 0, none⟩) (Kd.R_types HO357.out BK358.out (by decide)) (fun _ hk => hk.2) (.bool t354)) (fun _ hk => hk.2) (.slice Ao84 t355.length co84)) (fun _ h_ => h_.1))) hb); have n6_ := Aside0.mk (blk_below (g := gb331) (o := .cells #[.int .i64 t328, .int .i64 t329] 23 (0, 0)) (by (with_reducible repeat (first | refine blk_drewN ?_ _ | refine blk_drew ?_ | refine blk_alloc ?_ _)); refine blk_far ?_ NB331_358.out _; (with_reducible repeat (first | refine blk_drewN ?_ _ | refine blk_drew ?_ | refine blk_alloc ?_ _)); refine blk_far ?_ NB331_358.out _; (with_reducible repeat (first | refine blk_drewN ?_ _ | refine blk_drew ?_ | refine blk_alloc ?_ _)); exact BK331.out) hb); have n7_ := Aside0.mk (blk_below (g := gb345) (o := .cells #[.bool t341, .slice Ao73 t342.length co73] 31 (0, 0)) (by (with_reducible repeat (first | refine blk_drewN ?_ _ | refine blk_drew ?_ | refine blk_alloc ?_ _)); refine blk_far ?_ NB345_358.out _; (with_reducible repeat (first | refine blk_drewN ?_ _ | refine blk_drew ?_ | refine blk_alloc ?_ _)); refine blk_far ?_ NB345_358.out _; (with_reducible repeat (first | refine blk_drewN ?_ _ | refine blk_drew ?_ | refine blk_alloc ?_ _)); exact BK345.out) hb); have n8_ := Aside0.mk (blk_below (g := gb358) (o := .cells #[.bool t354, .slice Ao84 t355.length co84] 31 (0, 0)) (by (with_reducible repeat (first | refine blk_drewN ?_ _ | refine blk_drew ?_ | refine blk_alloc ?_ _)); refine blk_put (cs := #[.bool t354, .slice none 0 0]) ?_ 1 _ rfl; (with_reducible repeat (first | refine blk_drewN ?_ _ | refine blk_drew ?_ | refine blk_alloc ?_ _)); refine blk_put (cs := #[.bool false, .slice none 0 0]) ?_ 0 _ rfl; (with_reducible repeat (first | refine blk_drewN ?_ _ | refine blk_drew ?_ | refine blk_alloc ?_ _)); exact BK358.out) hb); have n9_ := Aside0.mk (below_step (q3_ HB.out GE331.out GE345.out GE358.out) hb); clear HO336; clear HO340; clear HO344; clear HO349; clear HO353; clear HO357; clear BK331; clear BK345; clear BK358; clear HB; have HO336 := n0_; have HO340 := n1_; have HO344 := n2_; have HO349 := n3_; have HO353 := n4_; have HO357 := n5_; have BK331 := n6_; have BK345 := n7_; have BK358 := n8_; have HB := n9_; clear n0_ n1_ n2_ n3_ n4_ n5_ n6_ n7_ n8_ n9_; (try clear hb); (try clear hb2); (try clear hk); (try clear hi); have hcz91_0 : w90.cell? ⟨gb331, 0, none⟩ = some (.int .i64 t328) := (blk_cell BK331.out 0).trans rfl; have hcz91_1 : w90.cell? ⟨gb331, 1, none⟩ = some (.int .i64 t329) := (blk_cell BK331.out 1).trans rfl; have hfz91_0 := blk_frozen BK331.out 0; have hfz91_1 := blk_frozen BK331.out 1) | ((with_reducible refine gate_callee (f := 26) rfl ?_); refine goesL_ (some 66) rfl rfl Tryd.func26 (by kernel_rfl) rfl #[.agg #[.int .i64 t328, .int .i64 t329]] rfl qe_ ?_; (with_reducible refine (num_Valid.calls kj6 t328 t329 true _ A25.out).mono ?_); rintro e w92 ⟨rfl, hb⟩; refine ⟨_, rfl, ?_⟩; have n0_ := Aside0.mk (Kd.R_below (qr_ HO336.out) hb); have n1_ := Aside0.mk (Kd.R_below (qr_ HO340.out) hb); have n2_ := Aside0.mk (Kd.R_below (qr_ HO344.out) hb); have n3_ := Aside0.mk (Kd.R_below (qr_ HO349.out) hb); have n4_ := Aside0.mk (Kd.R_below (qr_ HO353.out) hb); have n5_ := Aside0.mk (Kd.R_below (qr_ HO357.out) hb); have n6_ := Aside0.mk (blk_below (g := gb331) (o := .cells #[.int .i64 t328, .int .i64 t329] 23 (0, 0)) (qb_ BK331.out) hb); have n7_ := Aside0.mk (blk_below (g := gb345) (o := .cells #[.bool t341, .slice Ao73 t342.length co73] 31 (0, 0)) (qb_ BK345.out) hb); have n8_ := Aside0.mk (blk_below (g := gb358) (o := .cells #[.bool t354, .slice Ao84 t355.length co84] 31 (0, 0)) (qb_ BK358.out) hb); have n9_ := Aside0.mk (below_step (q3_ HB.out GE331.out GE345.out GE358.out) hb); clear HO336; clear HO340; clear HO344; clear HO349; clear HO353; clear HO357; clear BK331; clear BK345; clear BK358; clear HB; have HO336 := n0_; have HO340 := n1_; have HO344 := n2_; have HO349 := n3_; have HO353 := n4_; have HO357 := n5_; have BK331 := n6_; have BK345 := n7_; have BK358 := n8_; have HB := n9_; clear n0_ n1_ n2_ n3_ n4_ n5_ n6_ n7_ n8_ n9_; (try clear hb); (try clear hb2); (try clear hk); (try clear hi); have hcz93_0 : w92.cell? ⟨gb331, 0, none⟩ = some (.int .i64 t328) := (blk_cell BK331.out 0).trans rfl; have hcz93_1 : w92.cell? ⟨gb331, 1, none⟩ = some (.int .i64 t329) := (blk_cell BK331.out 1).trans rfl; have hfz93_0 := blk_frozen BK331.out 0; have hfz93_1 := blk_frozen BK331.out 1) | (go_at_call 21; (with_reducible refine (merinolaw01_alive.calls  t362 _ A63.out).mono ?_); rintro e w94 ⟨rfl, hb⟩; have n0_ := Aside0.mk (Kd.R_below (qr_ HO336.out) hb); have n1_ := Aside0.mk (Kd.R_below (qr_ HO340.out) hb); have n2_ := Aside0.mk (Kd.R_below (qr_ HO344.out) hb); have n3_ := Aside0.mk (Kd.R_below (qr_ HO349.out) hb); have n4_ := Aside0.mk (Kd.R_below (qr_ HO353.out) hb); have n5_ := Aside0.mk (Kd.R_below (qr_ HO357.out) hb); have n6_ := Aside0.mk (blk_below (g := gb331) (o := .cells #[.int .i64 t328, .int .i64 t329] 23 (0, 0)) (qb_ BK331.out) hb); have n7_ := Aside0.mk (blk_below (g := gb345) (o := .cells #[.bool t341, .slice Ao73 t342.length co73] 31 (0, 0)) (qb_ BK345.out) hb); have n8_ := Aside0.mk (blk_below (g := gb358) (o := .cells #[.bool t354, .slice Ao84 t355.length co84] 31 (0, 0)) (qb_ BK358.out) hb); have n9_ := Aside0.mk (below_step (q3_ HB.out GE331.out GE345.out GE358.out) hb); clear HO336; clear HO340; clear HO344; clear HO349; clear HO353; clear HO357; clear BK331; clear BK345; clear BK358; clear HB; have HO336 := n0_; have HO340 := n1_; have HO344 := n2_; have HO349 := n3_; have HO353 := n4_; have HO357 := n5_; have BK331 := n6_; have BK345 := n7_; have BK358 := n8_; have HB := n9_; clear n0_ n1_ n2_ n3_ n4_ n5_ n6_ n7_ n8_ n9_; (try clear hb); (try clear hb2); (try clear hk); (try clear hi)))
                  go_ret
                  exact ⟨by first | rfl | (simp [errW_none, errW_some] <;> rfl) | (simp [*, errW_none, errW_some] <;> rfl), (q3_ HB.out GE331.out GE345.out GE358.out)⟩
                · rw [if_neg c62] at H
                  have c62b0 : decide (t329 < a4) = false := decide_eq_false c62
                  clear c62
                  by_cases c95 : t329 = a4
                  · rw [if_pos c95] at H
                    have c95b0 : (t329 == a4) = true := beq_iff_eq.mpr c95
                    have c95b1 : (t329 != a4) = false := bne_eq_false_iff_eq.mpr c95
                    clear c95
                    by_cases c96 : t328 ≤ a3
                    · rw [if_pos c96] at H
                      have c96b0 : decide (t328 ≤ a3) = true := decide_eq_true c96
                      clear c96
                      replace H := Option.bind_eq_some_iff.mp H
                      obtain ⟨t363, A970, H⟩ := H
                      replace H : (some t363) = some r := H
                      have A97 := Aside0.mk A970
                      clear A970
                      obtain rfl := Option.some.inj H
                      have hcz98_0 : wc.cell? ⟨gb331, 0, none⟩ = some (.int .i64 t328) := (blk_cell BK331.out 0).trans rfl
                      have hcz98_1 : wc.cell? ⟨gb331, 1, none⟩ = some (.int .i64 t329) := (blk_cell BK331.out 1).trans rfl
                      have hfz98_0 := blk_frozen BK331.out 0
                      have hfz98_1 := blk_frozen BK331.out 1
                      try go_wp2_with (first | ((with_reducible refine gate_callee (f := 23) rfl ?_); refine goesL_ (some 49) rfl rfl Tryd.func23 (by kernel_rfl) rfl #[.int .i64 a0, .int .i64 a1, .int .i64 t328, .int .i64 t329] rfl qe_ ?_; (with_reducible refine (merinolaw01_off.calls kj6 a0 a1 t328 t329 t333 t334 _ A18.out).mono ?_); rintro e w99 ⟨v335, rfl, ho0, hb⟩; refine ⟨_, rfl, ?_⟩; have n0_ := Aside0.mk (Kd.R_lower ho0 (below_size (q1_ HB.out GE331.out))); have n1_ := Aside0.mk (blk_below (g := gb331) (o := .cells #[.int .i64 t328, .int .i64 t329] 23 (0, 0)) (qb_ BK331.out) hb); have n2_ := Aside0.mk (below_step (q1_ HB.out GE331.out) hb); clear BK331; clear HB; have HO336 := n0_; have BK331 := n1_; have HB := n2_; clear n0_ n1_ n2_; (try clear hb); (try clear hb2); (try clear hk); (try clear hi); (try clear ho0)) | ((with_reducible refine gate_callee (f := 24) rfl ?_); refine goesL_ (some 51) rfl rfl Tryd.func24 (by kernel_rfl) rfl #[.int .i64 a4] rfl qe_ ?_; (with_reducible refine (merinoref01_Of.calls kj6 a4 t337 t338 _ A19.out).mono ?_); rintro e w100 ⟨v339, rfl, ho0, hb⟩; refine ⟨_, rfl, ?_⟩; have n0_ := Aside0.mk (Kd.R_elder' (qr_ HO336.out) (Kd.R_base ho0) hb); have n1_ := Aside0.mk (Kd.R_lower (Kd.R_new' ho0 (Kd.R_lt (qr_ HO336.out))) (below_size (q1_ HB.out GE331.out))); have n2_ := Aside0.mk (blk_below (g := gb331) (o := .cells #[.int .i64 t328, .int .i64 t329] 23 (0, 0)) (qb_ BK331.out) hb); have n3_ := Aside0.mk (below_step (q1_ HB.out GE331.out) hb); clear HO336; clear BK331; clear HB; have HO336 := n0_; have HO340 := n1_; have BK331 := n2_; have HB := n3_; clear n0_ n1_ n2_ n3_; (try clear hb); (try clear hb2); (try clear hk); (try clear hi); (try clear ho0); obtain ⟨Ao101, co101, eo101⟩ := Kd.R_slice HO336.out; subst eo101; obtain ⟨Ao102, co102, eo102⟩ := Kd.R_slice HO340.out; subst eo102) | ((with_reducible refine gate_callee (f := 22) rfl ?_); refine goesL_ (some 52) rfl rfl Tryd.func22 (by kernel_rfl) rfl #[.agg #[.bool t333, .slice Ao101 t334.length co101], .agg #[.bool t337, .slice Ao102 t338.length co102]] rfl qe_ ?_; (with_reducible refine (merinoref01_Times.calls kj6 t333 _ _ t334 t337 _ _ t338 t341 t342 _ ?side1 ?side2 ?side3 ?side4 A20.out).mono ?_); (case side1 => exact qc_ (Kd.R_reads' HO336.out).2.2); (case side2 => exact (Kd.R_reads' HO336.out).2.1); (case side3 => exact qc_ (Kd.R_reads' HO340.out).2.2); (case side4 => exact (Kd.R_reads' HO340.out).2.1); rintro e w103 ⟨v343, rfl, ho0, hb⟩; refine ⟨_, rfl, ?_⟩; have n0_ := Aside0.mk (Kd.R_elder' (qr_ HO336.out) (Kd.R_base ho0) hb); have n1_ := Aside0.mk (Kd.R_elder' (qr_ HO340.out) (Kd.R_base ho0) hb); have n2_ := Aside0.mk (Kd.R_lower (Kd.R_new' (Kd.R_new' ho0 (Kd.R_lt (qr_ HO336.out))) (Kd.R_lt (qr_ HO340.out))) (below_size (q1_ HB.out GE331.out))); have n3_ := Aside0.mk (blk_below (g := gb331) (o := .cells #[.int .i64 t328, .int .i64 t329] 23 (0, 0)) (qb_ BK331.out) hb); have n4_ := Aside0.mk (below_step (q1_ HB.out GE331.out) hb); clear HO336; clear HO340; clear BK331; clear HB; have HO336 := n0_; have HO340 := n1_; have HO344 := n2_; have BK331 := n3_; have HB := n4_; clear n0_ n1_ n2_ n3_ n4_; (try clear hb); (try clear hb2); (try clear hk); (try clear hi); (try clear ho0)) | ((with_reducible refine gate_dst (N := 13) rfl ?_); refine box_event ?hg (N := 13) ?hd (cs := #[.bool false, .slice none 0 0]) (t := 31) ?hr ?_; (case hd => rfl); (case hg => rfl); (case hr => first | (go_simp; done) | (go_simp; rfl)); intro gb345 hg w104 hbox hb; have n0_ := Aside0.mk (Kd.R_below (qr_ HO336.out) hb); have n1_ := Aside0.mk (Kd.R_below (qr_ HO340.out) hb); have n2_ := Aside0.mk (Kd.R_below (qr_ HO344.out) hb); have n3_ := Aside0.mk (blk_below (g := gb331) (o := .cells #[.int .i64 t328, .int .i64 t329] 23 (0, 0)) (qb_ BK331.out) hb); have n4_ := Aside0.mk (below_step (q1_ HB.out GE331.out) hb); have n5_ := Aside0.mk (hbox); have n6_ := Aside0.mk ((by rw [hg]; exact (below_size (q1_ HB.out GE331.out)) : w.heap.size ≤ gb345)); have n7_ := Aside0.mk ((by rw [hg]; exact (below_size (q1_ HB.out GE331.out)) : w.heap.size ≤ gb345)); have n8_ := Aside0.mk ((by rw [hg]; exact Nat.ne_of_lt (blk_lt (g := gb331) (o := .cells #[.int .i64 t328, .int .i64 t329] 23 (0, 0)) (qb_ BK331.out)) : gb331 ≠ gb345)); have n9_ := Aside0.mk ((by rw [hg]; exact Nat.ne_of_gt (blk_lt (g := gb331) (o := .cells #[.int .i64 t328, .int .i64 t329] 23 (0, 0)) (qb_ BK331.out)) : gb345 ≠ gb331)); clear HO336; clear HO340; clear HO344; clear BK331; clear HB; have HO336 := n0_; have HO340 := n1_; have HO344 := n2_; have BK331 := n3_; have HB := n4_; have BK345 := n5_; have GW345 := n6_; have GE345 := n7_; have NB331_345 := n8_; have NB345_331 := n9_; clear n0_ n1_ n2_ n3_ n4_ n5_ n6_ n7_ n8_ n9_; clear hb hbox hg; have hnb105 := NB345_331.out; have hnc105 := NB331_345.out; have hcz106_0 : w104.cell? ⟨gb345, 0, none⟩ = some (.bool false) := (blk_cell BK345.out 0).trans rfl; have hcz106_1 : w104.cell? ⟨gb345, 1, none⟩ = some (.slice none 0 0) := (blk_cell BK345.out 1).trans rfl; have hfz106_0 := blk_frozen BK345.out 0; have hfz106_1 := blk_frozen BK345.out 1; obtain ⟨Ao107, co107, eo107⟩ := Kd.R_slice HO344.out; subst eo107))
                      have n0_ : Aside0 (Kd.R (Kd.int .i64) 3 ((w104.setCell ⟨gb345, 0, none⟩ (.bool t341)).setCell ⟨gb345, 1, none⟩ (.slice Ao107 t342.length co107)) w.heap.size (fun k_ => some k_ ≠ (.slice Ao102 t338.length co102 : Value).ownBlock ∧ some k_ ≠ (.slice Ao107 t342.length co107 : Value).ownBlock) (.slice Ao101 t334.length co101) t334) := ⟨by (with_reducible repeat (first | apply Kd.R_alloc | apply Kd.R_drewN | apply Kd.R_drew)); exact Kd.R_mono (Kd.R_far (p := ⟨gb345, 1, none⟩) (Kd.R_far (p := ⟨gb345, 0, none⟩) (Kd.R_types HO336.out BK345.out (by decide)) (fun _ hk => hk.2) (.bool t341)) (fun _ hk => hk.2) (.slice Ao107 t342.length co107)) (fun _ hk => ⟨hk.1.1.2, hk.1.2⟩)⟩
                      have n1_ : Aside0 (Kd.R (Kd.int .i64) 3 ((w104.setCell ⟨gb345, 0, none⟩ (.bool t341)).setCell ⟨gb345, 1, none⟩ (.slice Ao107 t342.length co107)) w.heap.size (fun k_ => some k_ ≠ (.slice Ao101 t334.length co101 : Value).ownBlock ∧ some k_ ≠ (.slice Ao107 t342.length co107 : Value).ownBlock) (.slice Ao102 t338.length co102) t338) := ⟨by (with_reducible repeat (first | apply Kd.R_alloc | apply Kd.R_drewN | apply Kd.R_drew)); exact Kd.R_mono (Kd.R_far (p := ⟨gb345, 1, none⟩) (Kd.R_far (p := ⟨gb345, 0, none⟩) (Kd.R_types HO340.out BK345.out (by decide)) (fun _ hk => hk.2) (.bool t341)) (fun _ hk => hk.2) (.slice Ao107 t342.length co107)) (fun _ hk => ⟨hk.1.1.2, hk.1.2⟩)⟩
                      have n2_ : Aside0 (Kd.R (Kd.int .i64) 3 ((w104.setCell ⟨gb345, 0, none⟩ (.bool t341)).setCell ⟨gb345, 1, none⟩ (.slice Ao107 t342.length co107)) w.heap.size (fun k_ => some k_ ≠ (.slice Ao101 t334.length co101 : Value).ownBlock ∧ some k_ ≠ (.slice Ao102 t338.length co102 : Value).ownBlock) (.slice Ao107 t342.length co107) t342) := ⟨by (with_reducible repeat (first | apply Kd.R_alloc | apply Kd.R_drewN | apply Kd.R_drew)); exact Kd.R_mono (Kd.R_far (p := ⟨gb345, 1, none⟩) (Kd.R_far (p := ⟨gb345, 0, none⟩) (Kd.R_types HO344.out BK345.out (by decide)) (fun _ hk => hk.2) (.bool t341)) (fun _ hk => hk.2) (.slice Ao107 t342.length co107)) (fun _ hk => ⟨hk.1.1.2, hk.1.2⟩)⟩
                      have n3_ : Aside0 (((w104.setCell ⟨gb345, 0, none⟩ (.bool t341)).setCell ⟨gb345, 1, none⟩ (.slice Ao107 t342.length co107)).heap[gb331]? = some (.cells #[.int .i64 t328, .int .i64 t329] 23 (0, 0))) := ⟨by (with_reducible repeat (first | refine blk_drewN ?_ _ | refine blk_drew ?_ | refine blk_alloc ?_ _)); refine blk_far ?_ NB331_345.out _; (with_reducible repeat (first | refine blk_drewN ?_ _ | refine blk_drew ?_ | refine blk_alloc ?_ _)); refine blk_far ?_ NB331_345.out _; (with_reducible repeat (first | refine blk_drewN ?_ _ | refine blk_drew ?_ | refine blk_alloc ?_ _)); exact BK331.out⟩
                      have n4_ : Aside0 (((w104.setCell ⟨gb345, 0, none⟩ (.bool t341)).setCell ⟨gb345, 1, none⟩ (.slice Ao107 t342.length co107)).heap[gb345]? = some (.cells #[.bool t341, .slice Ao107 t342.length co107] 31 (0, 0))) := ⟨by (with_reducible repeat (first | refine blk_drewN ?_ _ | refine blk_drew ?_ | refine blk_alloc ?_ _)); refine blk_put (cs := #[.bool t341, .slice none 0 0]) ?_ 1 _ rfl; (with_reducible repeat (first | refine blk_drewN ?_ _ | refine blk_drew ?_ | refine blk_alloc ?_ _)); refine blk_put (cs := #[.bool false, .slice none 0 0]) ?_ 0 _ rfl; (with_reducible repeat (first | refine blk_drewN ?_ _ | refine blk_drew ?_ | refine blk_alloc ?_ _)); exact BK345.out⟩
                      have n5_ : Aside0 (Below w.heap.size w ((w104.setCell ⟨gb345, 0, none⟩ (.bool t341)).setCell ⟨gb345, 1, none⟩ (.slice Ao107 t342.length co107))) := ⟨(q2_ HB.out GE331.out GE345.out)⟩
                      (try clear HO336)
                      (try clear HO340)
                      (try clear HO344)
                      (try clear BK331)
                      (try clear BK345)
                      (try clear HB)
                      generalize ((w104.setCell ⟨gb345, 0, none⟩ (.bool t341)).setCell ⟨gb345, 1, none⟩ (.slice Ao107 t342.length co107)) = w108 at n0_ n1_ n2_ n3_ n4_ n5_ ⊢
                      have HO336 := n0_
                      have HO340 := n1_
                      have HO344 := n2_
                      have BK331 := n3_
                      have BK345 := n4_
                      have HB := n5_
                      clear n0_ n1_ n2_ n3_ n4_ n5_
                      have n0_ := Aside0.mk (Kd.R_drew HO336.out)
                      have n1_ := Aside0.mk (Kd.R_drew HO340.out)
                      have n2_ := Aside0.mk (Kd.R_drew HO344.out)
                      have n3_ := Aside0.mk (blk_drew BK331.out)
                      have n4_ := Aside0.mk (blk_drew BK345.out)
                      have n5_ := Aside0.mk (below_drew1 HB.out)
                      clear HO336
                      clear HO340
                      clear HO344
                      clear BK331
                      clear BK345
                      clear HB
                      have HO336 := n0_
                      have HO340 := n1_
                      have HO344 := n2_
                      have BK331 := n3_
                      have BK345 := n4_
                      have HB := n5_
                      clear n0_ n1_ n2_ n3_ n4_ n5_
                      refine start_ (n := 11) (S := fun w' => w'.cell? ⟨gb331, 0, none⟩ = some (.int .i64 t328) ∧ w'.cell? ⟨gb331, 1, none⟩ = some (.int .i64 t329)) (ds := []) #[false, false, false, false, false, false, false, false, false, false, false] (by kernel_rfl) rfl rfl ⟨(blk_cell BK331.out 0).trans rfl, (blk_cell BK331.out 1).trans rfl⟩ (fun hHeld => ?_); refine with_tabW merinolaw01_NumNearest.tab5 merinolaw01_NumNearest.bits5 (fun HT_ HW_ => ?_)
                      generalize w108.drew = w109 at HO336 HO340 HO344 BK331 BK345 HB hHeld ⊢
                      refine pure_ (i := 0) (N := some 53) (v := ?_) (a' := ?_) #[true, false, false, false, false, false, false, false, false, false, false] rfl rfl (any_of HT_.out (by kernel_rfl)) (fun _ _ _ h => h) (Or.inl ⟨by rfl, ?_⟩) ?_ ?_
                      rotate_left
                      · intro w'
                        go_simp
                        with_reducible rfl
                      rotate_left
                      · simp only [Act.put, List.setIfInBounds_toArray, List.set_cons_zero, List.set_cons_succ, i64_w, i32_w]
                        rfl
                      refine pure_ (i := 1) (N := some 54) (v := ?_) (a' := ?_) #[true, true, false, false, false, false, false, false, false, false, false] rfl rfl (any_of HT_.out (by kernel_rfl)) (fun _ _ _ h => h) (Or.inl ⟨by rfl, ?_⟩) ?_ ?_
                      rotate_left
                      · intro w'
                        go_simp
                        with_reducible rfl
                      rotate_left
                      · simp only [Act.put, List.setIfInBounds_toArray, List.set_cons_zero, List.set_cons_succ, i64_w, i32_w]
                        rfl
                      refine pure_ (i := 2) (N := some 55) (v := ?_) (a' := ?_) #[true, true, true, false, false, false, false, false, false, false, false] rfl rfl (any_of HT_.out (by kernel_rfl)) (fun _ _ _ h => h) (Or.inl ⟨by rfl, ?_⟩) ?_ ?_
                      rotate_left
                      · intro w'
                        go_simp
                        with_reducible rfl
                      rotate_left
                      · simp only [Act.put, List.setIfInBounds_toArray, List.set_cons_zero, List.set_cons_succ, i64_w, i32_w]
                        rfl
                      refine pure_ (i := 3) (N := some 56) (v := ?_) (a' := ?_) #[true, true, true, true, false, false, false, false, false, false, false] rfl rfl (any_of HT_.out (by kernel_rfl)) (fun _ _ _ h => h) (Or.inl ⟨by rfl, ?_⟩) ?_ ?_
                      rotate_left
                      · intro w'
                        go_simp
                        with_reducible rfl
                      rotate_left
                      · simp only [Act.put, List.setIfInBounds_toArray, List.set_cons_zero, List.set_cons_succ, i64_w, i32_w]
                        rfl
                      refine pure_ (i := 5) (N := some 58) (v := ?_) (a' := ?_) #[true, true, true, true, false, true, false, false, false, false, false] rfl rfl (any_of HT_.out (by kernel_rfl)) (fun _ _ _ h => h) (Or.inl ⟨by rfl, ?_⟩) ?_ ?_
                      rotate_left
                      · intro w'
                        go_simp
                        with_reducible rfl
                      rotate_left
                      · simp only [Act.put, List.setIfInBounds_toArray, List.set_cons_zero, List.set_cons_succ, i64_w, i32_w]
                        rfl
                      refine take_ (i := 6) (N := some 59) (v := ?_) (a' := ?_) #[true, true, true, true, false, true, true, false, false, false, false] rfl rfl (take_ofW HT_.out HW_.out (by kernel_rfl)) (fun _ _ _ h => h) (Or.inl ⟨by rfl, ?_⟩) hHeld ?_ ?_
                      rotate_left
                      · rintro w' ⟨s0, s1⟩
                        go_simp
                        with_reducible rfl
                      rotate_left
                      · simp only [Act.put, List.setIfInBounds_toArray, List.set_cons_zero, List.set_cons_succ, i64_w, i32_w]
                        rfl
                      refine join_ (σ := Value × Value × Value × Nat) 1 #[true, true, true, true, true, true, true, true, true, true, false] (fun s_ => [(57, .agg #[.bool t346, s_.1]), (60, .agg #[.bool t350, s_.2.1]), (61, .agg #[.bool t354, s_.2.2.1]), (14, .pointer (some ⟨s_.2.2.2, 0, none⟩))]) (fun s_ w' => (w'.cell? ⟨gb331, 0, none⟩ = some (.int .i64 t328) ∧ w'.cell? ⟨gb331, 1, none⟩ = some (.int .i64 t329)) ∧ (Kd.R (Kd.int .i64) 3 w' w.heap.size (fun k_ => some k_ ≠ (.slice Ao102 t338.length co102 : Value).ownBlock ∧ some k_ ≠ (.slice Ao107 t342.length co107 : Value).ownBlock ∧ some k_ ≠ (s_.1 : Value).ownBlock ∧ some k_ ≠ (s_.2.1 : Value).ownBlock ∧ some k_ ≠ (s_.2.2.1 : Value).ownBlock) (.slice Ao101 t334.length co101) t334) ∧ (Kd.R (Kd.int .i64) 3 w' w.heap.size (fun k_ => some k_ ≠ (.slice Ao101 t334.length co101 : Value).ownBlock ∧ some k_ ≠ (.slice Ao107 t342.length co107 : Value).ownBlock ∧ some k_ ≠ (s_.1 : Value).ownBlock ∧ some k_ ≠ (s_.2.1 : Value).ownBlock ∧ some k_ ≠ (s_.2.2.1 : Value).ownBlock) (.slice Ao102 t338.length co102) t338) ∧ (Kd.R (Kd.int .i64) 3 w' w.heap.size (fun k_ => some k_ ≠ (.slice Ao101 t334.length co101 : Value).ownBlock ∧ some k_ ≠ (.slice Ao102 t338.length co102 : Value).ownBlock ∧ some k_ ≠ (s_.1 : Value).ownBlock ∧ some k_ ≠ (s_.2.1 : Value).ownBlock ∧ some k_ ≠ (s_.2.2.1 : Value).ownBlock) (.slice Ao107 t342.length co107) t342) ∧ (Kd.R (Kd.int .i64) 3 w' w.heap.size (fun k_ => some k_ ≠ (.slice Ao101 t334.length co101 : Value).ownBlock ∧ some k_ ≠ (.slice Ao102 t338.length co102 : Value).ownBlock ∧ some k_ ≠ (.slice Ao107 t342.length co107 : Value).ownBlock ∧ some k_ ≠ (s_.2.1 : Value).ownBlock ∧ some k_ ≠ (s_.2.2.1 : Value).ownBlock) s_.1 t347) ∧ (Kd.R (Kd.int .i64) 3 w' w.heap.size (fun k_ => some k_ ≠ (.slice Ao101 t334.length co101 : Value).ownBlock ∧ some k_ ≠ (.slice Ao102 t338.length co102 : Value).ownBlock ∧ some k_ ≠ (.slice Ao107 t342.length co107 : Value).ownBlock ∧ some k_ ≠ (s_.1 : Value).ownBlock ∧ some k_ ≠ (s_.2.2.1 : Value).ownBlock) s_.2.1 t351) ∧ (Kd.R (Kd.int .i64) 3 w' w.heap.size (fun k_ => some k_ ≠ (.slice Ao101 t334.length co101 : Value).ownBlock ∧ some k_ ≠ (.slice Ao102 t338.length co102 : Value).ownBlock ∧ some k_ ≠ (.slice Ao107 t342.length co107 : Value).ownBlock ∧ some k_ ≠ (s_.1 : Value).ownBlock ∧ some k_ ≠ (s_.2.1 : Value).ownBlock) s_.2.2.1 t355) ∧ (w'.heap[gb331]? = some (.cells #[.int .i64 t328, .int .i64 t329] 23 (0, 0))) ∧ (w'.heap[gb345]? = some (.cells #[.bool t341, .slice Ao107 t342.length co107] 31 (0, 0))) ∧ (w'.heap[s_.2.2.2]? = some (.cells #[.bool false, .slice none 0 0] 31 (0, 0))) ∧ (w.heap.size ≤ s_.2.2.2) ∧ (w.heap.size ≤ s_.2.2.2) ∧ (gb331 ≠ s_.2.2.2) ∧ (s_.2.2.2 ≠ gb331) ∧ (gb345 ≠ s_.2.2.2) ∧ (s_.2.2.2 ≠ gb345) ∧ (Below w.heap.size w w')) ?_ ?_
                      rotate_left
                      · intro hCont
                        refine two_ (i := 4) (j := 9) (Ni := some 57) (Nj := some 14) #[true, true, true, true, true, true, true, false, false, false, false] #[true, true, true, true, false, true, true, false, false, true, false] rfl rfl rfl rfl (two_of HT_.out (by kernel_rfl)) (by decide) (by decide) (fun K hK => ?_) (fun K hK => ?_)
                        · skip
                          refine goes_ Tryd.func23 (by kernel_rfl) rfl #[.int .i64 a0, .int .i64 a1, .int .i64 a3, .int .i64 a4] (by rfl) rfl rfl qe_ ?_
                          with_reducible refine (merinolaw01_off.calls kj6 a0 a1 a3 a4 t346 t347 _ A21.out).mono ?_
                          rintro e w110 ⟨v348, rfl, ho0, hb⟩
                          refine ⟨_, rfl, ?_⟩
                          have n0_ := Aside0.mk (Kd.R_elder' (qr_ HO336.out) (Kd.R_base ho0) hb)
                          have n1_ := Aside0.mk (Kd.R_elder' (qr_ HO340.out) (Kd.R_base ho0) hb)
                          have n2_ := Aside0.mk (Kd.R_elder' (qr_ HO344.out) (Kd.R_base ho0) hb)
                          have n3_ := Aside0.mk (Kd.R_lower (Kd.R_new' (Kd.R_new' (Kd.R_new' ho0 (Kd.R_lt (qr_ HO336.out))) (Kd.R_lt (qr_ HO340.out))) (Kd.R_lt (qr_ HO344.out))) (below_size (q2_ HB.out GE331.out GE345.out)))
                          have n4_ := Aside0.mk (blk_below (g := gb331) (o := .cells #[.int .i64 t328, .int .i64 t329] 23 (0, 0)) (qb_ BK331.out) hb)
                          have n5_ := Aside0.mk (blk_below (g := gb345) (o := .cells #[.bool t341, .slice Ao107 t342.length co107] 31 (0, 0)) (qb_ BK345.out) hb)
                          have n6_ := Aside0.mk (below_step (q2_ HB.out GE331.out GE345.out) hb)
                          clear HO336
                          clear HO340
                          clear HO344
                          clear BK331
                          clear BK345
                          clear HB
                          have HO336 := n0_
                          have HO340 := n1_
                          have HO344 := n2_
                          have HO349 := n3_
                          have BK331 := n4_
                          have BK345 := n5_
                          have HB := n6_
                          clear n0_ n1_ n2_ n3_ n4_ n5_ n6_
                          (try clear hb)
                          (try clear hb2)
                          (try clear hk)
                          (try clear hi)
                          (try clear ho0)
                          refine hK.out _ _ ⟨(blk_cell BK331.out 0).trans rfl, (blk_cell BK331.out 1).trans rfl⟩ (fun hHeld => ?_)
                          clear hK K
                          refine norm_ (a' := ?_) ?_ ?_
                          rotate_left
                          · show Act.put _ (some 57) _ = _
                            simp only [Act.put, List.setIfInBounds_toArray, List.set_cons_zero, List.set_cons_succ, i64_w, i32_w]
                            rfl
                          refine two_ (i := 7) (j := 9) (Ni := some 60) (Nj := some 14) #[true, true, true, true, true, true, true, true, false, false, false] #[true, true, true, true, true, true, true, false, false, true, false] rfl rfl rfl rfl (two_of HT_.out (by kernel_rfl)) (by decide) (by decide) (fun K hK => ?_) (fun K hK => ?_)
                          · skip
                            refine goes_ Tryd.func24 (by kernel_rfl) rfl #[.int .i64 t329] (by rfl) rfl rfl qe_ ?_
                            with_reducible refine (merinoref01_Of.calls kj6 t329 t350 t351 _ A22.out).mono ?_
                            rintro e w111 ⟨v352, rfl, ho0, hb⟩
                            refine ⟨_, rfl, ?_⟩
                            have n0_ := Aside0.mk (Kd.R_elder' (qr_ HO336.out) (Kd.R_base ho0) hb)
                            have n1_ := Aside0.mk (Kd.R_elder' (qr_ HO340.out) (Kd.R_base ho0) hb)
                            have n2_ := Aside0.mk (Kd.R_elder' (qr_ HO344.out) (Kd.R_base ho0) hb)
                            have n3_ := Aside0.mk (Kd.R_elder' (qr_ HO349.out) (Kd.R_base ho0) hb)
                            have n4_ := Aside0.mk (Kd.R_lower (Kd.R_new' (Kd.R_new' (Kd.R_new' (Kd.R_new' ho0 (Kd.R_lt (qr_ HO336.out))) (Kd.R_lt (qr_ HO340.out))) (Kd.R_lt (qr_ HO344.out))) (Kd.R_lt (qr_ HO349.out))) (below_size (q2_ HB.out GE331.out GE345.out)))
                            have n5_ := Aside0.mk (blk_below (g := gb331) (o := .cells #[.int .i64 t328, .int .i64 t329] 23 (0, 0)) (qb_ BK331.out) hb)
                            have n6_ := Aside0.mk (blk_below (g := gb345) (o := .cells #[.bool t341, .slice Ao107 t342.length co107] 31 (0, 0)) (qb_ BK345.out) hb)
                            have n7_ := Aside0.mk (below_step (q2_ HB.out GE331.out GE345.out) hb)
                            clear HO336
                            clear HO340
                            clear HO344
                            clear HO349
                            clear BK331
                            clear BK345
                            clear HB
                            have HO336 := n0_
                            have HO340 := n1_
                            have HO344 := n2_
                            have HO349 := n3_
                            have HO353 := n4_
                            have BK331 := n5_
                            have BK345 := n6_
                            have HB := n7_
                            clear n0_ n1_ n2_ n3_ n4_ n5_ n6_ n7_
                            (try clear hb)
                            (try clear hb2)
                            (try clear hk)
                            (try clear hi)
                            (try clear ho0)
                            obtain ⟨Ao112, co112, eo112⟩ := Kd.R_slice HO349.out
                            (first | subst eo112 | (injection eo112 with f1_ f2_ f3_; have f4_ := f1_.symm; have f5_ := f3_.symm; clear f1_ f2_ f3_; subst f4_; subst f5_))
                            obtain ⟨Ao113, co113, eo113⟩ := Kd.R_slice HO353.out
                            (first | subst eo113 | (injection eo113 with f1_ f2_ f3_; have f4_ := f1_.symm; have f5_ := f3_.symm; clear f1_ f2_ f3_; subst f4_; subst f5_))
                            refine hK.out _ _ ⟨(blk_cell BK331.out 0).trans rfl, (blk_cell BK331.out 1).trans rfl⟩ (fun hHeld => ?_)
                            clear hK K
                            refine norm_ (a' := ?_) ?_ ?_
                            rotate_left
                            · show Act.put _ (some 60) _ = _
                              simp only [Act.put, List.setIfInBounds_toArray, List.set_cons_zero, List.set_cons_succ, i64_w, i32_w]
                              rfl
                            refine two_ (i := 8) (j := 9) (Ni := some 61) (Nj := some 14) #[true, true, true, true, true, true, true, true, true, false, false] #[true, true, true, true, true, true, true, true, false, true, false] rfl rfl rfl rfl (two_of HT_.out (by kernel_rfl)) (by decide) (by decide) (fun K hK => ?_) (fun K hK => ?_)
                            · skip
                              refine goes_ Tryd.func22 (by kernel_rfl) rfl #[.agg #[.bool t346, .slice Ao112 t347.length co112], .agg #[.bool t350, .slice Ao113 t351.length co113]] (by rfl) rfl rfl qe_ ?_
                              with_reducible refine (merinoref01_Times.calls kj6 t346 _ _ t347 t350 _ _ t351 t354 t355 _ ?side1 ?side2 ?side3 ?side4 A23.out).mono ?_
                              (case side1 => exact qc_ (Kd.R_reads' HO349.out).2.2)
                              (case side2 => exact (Kd.R_reads' HO349.out).2.1)
                              (case side3 => exact qc_ (Kd.R_reads' HO353.out).2.2)
                              (case side4 => exact (Kd.R_reads' HO353.out).2.1)
                              rintro e w114 ⟨v356, rfl, ho0, hb⟩
                              refine ⟨_, rfl, ?_⟩
                              have n0_ := Aside0.mk (Kd.R_elder' (qr_ HO336.out) (Kd.R_base ho0) hb)
                              have n1_ := Aside0.mk (Kd.R_elder' (qr_ HO340.out) (Kd.R_base ho0) hb)
                              have n2_ := Aside0.mk (Kd.R_elder' (qr_ HO344.out) (Kd.R_base ho0) hb)
                              have n3_ := Aside0.mk (Kd.R_elder' (qr_ HO349.out) (Kd.R_base ho0) hb)
                              have n4_ := Aside0.mk (Kd.R_elder' (qr_ HO353.out) (Kd.R_base ho0) hb)
                              have n5_ := Aside0.mk (Kd.R_lower (Kd.R_new' (Kd.R_new' (Kd.R_new' (Kd.R_new' (Kd.R_new' ho0 (Kd.R_lt (qr_ HO336.out))) (Kd.R_lt (qr_ HO340.out))) (Kd.R_lt (qr_ HO344.out))) (Kd.R_lt (qr_ HO349.out))) (Kd.R_lt (qr_ HO353.out))) (below_size (q2_ HB.out GE331.out GE345.out)))
                              have n6_ := Aside0.mk (blk_below (g := gb331) (o := .cells #[.int .i64 t328, .int .i64 t329] 23 (0, 0)) (qb_ BK331.out) hb)
                              have n7_ := Aside0.mk (blk_below (g := gb345) (o := .cells #[.bool t341, .slice Ao107 t342.length co107] 31 (0, 0)) (qb_ BK345.out) hb)
                              have n8_ := Aside0.mk (below_step (q2_ HB.out GE331.out GE345.out) hb)
                              clear HO336
                              clear HO340
                              clear HO344
                              clear HO349
                              clear HO353
                              clear BK331
                              clear BK345
                              clear HB
                              have HO336 := n0_
                              have HO340 := n1_
                              have HO344 := n2_
                              have HO349 := n3_
                              have HO353 := n4_
                              have HO357 := n5_
                              have BK331 := n6_
                              have BK345 := n7_
                              have HB := n8_
                              clear n0_ n1_ n2_ n3_ n4_ n5_ n6_ n7_ n8_
                              (try clear hb)
                              (try clear hb2)
                              (try clear hk)
                              (try clear hi)
                              (try clear ho0)
                              refine hK.out _ _ ⟨(blk_cell BK331.out 0).trans rfl, (blk_cell BK331.out 1).trans rfl⟩ (fun hHeld => ?_)
                              clear hK K
                              refine norm_ (a' := ?_) ?_ ?_
                              rotate_left
                              · show Act.put _ (some 61) _ = _
                                simp only [Act.put, List.setIfInBounds_toArray, List.set_cons_zero, List.set_cons_succ, i64_w, i32_w]
                                rfl
                              refine one_ (i := 9) (N := some 14) #[true, true, true, true, true, true, true, true, true, true, false] rfl rfl (one_of HT_.out (by kernel_rfl)) (by decide) (fun K hK => ?_)
                              refine box_step ?hg (N := 14) ?hd (cs := #[.bool false, .slice none 0 0]) (t := 31) ?hr ?_; (case hd => rfl); (case hg => rfl); (case hr => first | (go_simp; done) | (go_simp; rfl))
                              intro gb358 hg w115 hbox hb
                              have n0_ := Aside0.mk (Kd.R_below (qr_ HO336.out) hb)
                              have n1_ := Aside0.mk (Kd.R_below (qr_ HO340.out) hb)
                              have n2_ := Aside0.mk (Kd.R_below (qr_ HO344.out) hb)
                              have n3_ := Aside0.mk (Kd.R_below (qr_ HO349.out) hb)
                              have n4_ := Aside0.mk (Kd.R_below (qr_ HO353.out) hb)
                              have n5_ := Aside0.mk (Kd.R_below (qr_ HO357.out) hb)
                              have n6_ := Aside0.mk (blk_below (g := gb331) (o := .cells #[.int .i64 t328, .int .i64 t329] 23 (0, 0)) (qb_ BK331.out) hb)
                              have n7_ := Aside0.mk (blk_below (g := gb345) (o := .cells #[.bool t341, .slice Ao107 t342.length co107] 31 (0, 0)) (qb_ BK345.out) hb)
                              have n8_ := Aside0.mk (below_step (q2_ HB.out GE331.out GE345.out) hb)
                              have n9_ := Aside0.mk (hbox)
                              have n10_ := Aside0.mk ((by rw [hg]; exact (below_size (q2_ HB.out GE331.out GE345.out)) : w.heap.size ≤ gb358))
                              have n11_ := Aside0.mk ((by rw [hg]; exact (below_size (q2_ HB.out GE331.out GE345.out)) : w.heap.size ≤ gb358))
                              have n12_ := Aside0.mk ((by rw [hg]; exact Nat.ne_of_lt (blk_lt (g := gb331) (o := .cells #[.int .i64 t328, .int .i64 t329] 23 (0, 0)) (qb_ BK331.out)) : gb331 ≠ gb358))
                              have n13_ := Aside0.mk ((by rw [hg]; exact Nat.ne_of_gt (blk_lt (g := gb331) (o := .cells #[.int .i64 t328, .int .i64 t329] 23 (0, 0)) (qb_ BK331.out)) : gb358 ≠ gb331))
                              have n14_ := Aside0.mk ((by rw [hg]; exact Nat.ne_of_lt (blk_lt (g := gb345) (o := .cells #[.bool t341, .slice Ao107 t342.length co107] 31 (0, 0)) (qb_ BK345.out)) : gb345 ≠ gb358))
                              have n15_ := Aside0.mk ((by rw [hg]; exact Nat.ne_of_gt (blk_lt (g := gb345) (o := .cells #[.bool t341, .slice Ao107 t342.length co107] 31 (0, 0)) (qb_ BK345.out)) : gb358 ≠ gb345))
                              clear HO336
                              clear HO340
                              clear HO344
                              clear HO349
                              clear HO353
                              clear HO357
                              clear BK331
                              clear BK345
                              clear HB
                              have HO336 := n0_
                              have HO340 := n1_
                              have HO344 := n2_
                              have HO349 := n3_
                              have HO353 := n4_
                              have HO357 := n5_
                              have BK331 := n6_
                              have BK345 := n7_
                              have HB := n8_
                              have BK358 := n9_
                              have GW358 := n10_
                              have GE358 := n11_
                              have NB331_358 := n12_
                              have NB358_331 := n13_
                              have NB345_358 := n14_
                              have NB358_345 := n15_
                              clear n0_ n1_ n2_ n3_ n4_ n5_ n6_ n7_ n8_ n9_ n10_ n11_ n12_ n13_ n14_ n15_
                              clear hb hbox hg
                              refine hK.out _ _ ⟨(blk_cell BK331.out 0).trans rfl, (blk_cell BK331.out 1).trans rfl⟩ (fun hHeld => ?_)
                              clear hK K
                              refine norm_ (a' := ?_) ?_ ?_
                              rotate_left
                              · show Act.put _ (some 14) _ = _
                                simp only [Act.put, List.setIfInBounds_toArray, List.set_cons_zero, List.set_cons_succ, i64_w, i32_w]
                                rfl
                              exact norm_ (by simp only [putAll, Act.put, List.setIfInBounds_toArray, List.set_cons_zero, List.set_cons_succ]) (hCont (.slice Ao112 t347.length co112, .slice Ao113 t351.length co113, v356, gb358) _ ⟨hHeld, (by (with_reducible repeat (first | apply Kd.R_alloc | apply Kd.R_drewN | apply Kd.R_drew)); exact Kd.R_mono HO336.out (fun _ hk => ⟨hk.1.1.1.1, ⟨hk.1.1.1.2, ⟨hk.1.1.2, ⟨hk.1.2, hk.2⟩⟩⟩⟩)), (by (with_reducible repeat (first | apply Kd.R_alloc | apply Kd.R_drewN | apply Kd.R_drew)); exact Kd.R_mono HO340.out (fun _ hk => ⟨hk.1.1.1.1, ⟨hk.1.1.1.2, ⟨hk.1.1.2, ⟨hk.1.2, hk.2⟩⟩⟩⟩)), (by (with_reducible repeat (first | apply Kd.R_alloc | apply Kd.R_drewN | apply Kd.R_drew)); exact Kd.R_mono HO344.out (fun _ hk => ⟨hk.1.1.1.1, ⟨hk.1.1.1.2, ⟨hk.1.1.2, ⟨hk.1.2, hk.2⟩⟩⟩⟩)), (by (with_reducible repeat (first | apply Kd.R_alloc | apply Kd.R_drewN | apply Kd.R_drew)); exact Kd.R_mono HO349.out (fun _ hk => ⟨hk.1.1.1.1.2, ⟨hk.1.1.1.2, ⟨hk.1.1.2, ⟨hk.1.2, hk.2⟩⟩⟩⟩)), (by (with_reducible repeat (first | apply Kd.R_alloc | apply Kd.R_drewN | apply Kd.R_drew)); exact Kd.R_mono HO353.out (fun _ hk => ⟨hk.1.1.1.1.2, ⟨hk.1.1.1.2, ⟨hk.1.1.2, ⟨hk.1.2, hk.2⟩⟩⟩⟩)), (by (with_reducible repeat (first | apply Kd.R_alloc | apply Kd.R_drewN | apply Kd.R_drew)); exact Kd.R_mono HO357.out (fun _ hk => ⟨hk.1.1.1.1.2, ⟨hk.1.1.1.2, ⟨hk.1.1.2, ⟨hk.1.2, hk.2⟩⟩⟩⟩)), (qb_ BK331.out), (qb_ BK345.out), (qb_ BK358.out), GW358.out, GE358.out, NB331_358.out, NB358_331.out, NB345_358.out, NB358_345.out, (q3_ HB.out GE331.out GE345.out GE358.out)⟩)
                            · skip
                              refine box_step ?hg (N := 14) ?hd (cs := #[.bool false, .slice none 0 0]) (t := 31) ?hr ?_; (case hd => rfl); (case hg => rfl); (case hr => first | (go_simp; done) | (go_simp; rfl))
                              intro gb358 hg w112 hbox hb
                              have n0_ := Aside0.mk (Kd.R_below (qr_ HO336.out) hb)
                              have n1_ := Aside0.mk (Kd.R_below (qr_ HO340.out) hb)
                              have n2_ := Aside0.mk (Kd.R_below (qr_ HO344.out) hb)
                              have n3_ := Aside0.mk (Kd.R_below (qr_ HO349.out) hb)
                              have n4_ := Aside0.mk (Kd.R_below (qr_ HO353.out) hb)
                              have n5_ := Aside0.mk (blk_below (g := gb331) (o := .cells #[.int .i64 t328, .int .i64 t329] 23 (0, 0)) (qb_ BK331.out) hb)
                              have n6_ := Aside0.mk (blk_below (g := gb345) (o := .cells #[.bool t341, .slice Ao107 t342.length co107] 31 (0, 0)) (qb_ BK345.out) hb)
                              have n7_ := Aside0.mk (below_step (q2_ HB.out GE331.out GE345.out) hb)
                              have n8_ := Aside0.mk (hbox)
                              have n9_ := Aside0.mk ((by rw [hg]; exact (below_size (q2_ HB.out GE331.out GE345.out)) : w.heap.size ≤ gb358))
                              have n10_ := Aside0.mk ((by rw [hg]; exact (below_size (q2_ HB.out GE331.out GE345.out)) : w.heap.size ≤ gb358))
                              have n11_ := Aside0.mk ((by rw [hg]; exact Nat.ne_of_lt (blk_lt (g := gb331) (o := .cells #[.int .i64 t328, .int .i64 t329] 23 (0, 0)) (qb_ BK331.out)) : gb331 ≠ gb358))
                              have n12_ := Aside0.mk ((by rw [hg]; exact Nat.ne_of_gt (blk_lt (g := gb331) (o := .cells #[.int .i64 t328, .int .i64 t329] 23 (0, 0)) (qb_ BK331.out)) : gb358 ≠ gb331))
                              have n13_ := Aside0.mk ((by rw [hg]; exact Nat.ne_of_lt (blk_lt (g := gb345) (o := .cells #[.bool t341, .slice Ao107 t342.length co107] 31 (0, 0)) (qb_ BK345.out)) : gb345 ≠ gb358))
                              have n14_ := Aside0.mk ((by rw [hg]; exact Nat.ne_of_gt (blk_lt (g := gb345) (o := .cells #[.bool t341, .slice Ao107 t342.length co107] 31 (0, 0)) (qb_ BK345.out)) : gb358 ≠ gb345))
                              clear HO336
                              clear HO340
                              clear HO344
                              clear HO349
                              clear HO353
                              clear BK331
                              clear BK345
                              clear HB
                              have HO336 := n0_
                              have HO340 := n1_
                              have HO344 := n2_
                              have HO349 := n3_
                              have HO353 := n4_
                              have BK331 := n5_
                              have BK345 := n6_
                              have HB := n7_
                              have BK358 := n8_
                              have GW358 := n9_
                              have GE358 := n10_
                              have NB331_358 := n11_
                              have NB358_331 := n12_
                              have NB345_358 := n13_
                              have NB358_345 := n14_
                              clear n0_ n1_ n2_ n3_ n4_ n5_ n6_ n7_ n8_ n9_ n10_ n11_ n12_ n13_ n14_
                              clear hb hbox hg
                              obtain ⟨Ao113, co113, eo113⟩ := Kd.R_slice HO349.out
                              (first | subst eo113 | (injection eo113 with f1_ f2_ f3_; have f4_ := f1_.symm; have f5_ := f3_.symm; clear f1_ f2_ f3_; subst f4_; subst f5_))
                              obtain ⟨Ao114, co114, eo114⟩ := Kd.R_slice HO353.out
                              (first | subst eo114 | (injection eo114 with f1_ f2_ f3_; have f4_ := f1_.symm; have f5_ := f3_.symm; clear f1_ f2_ f3_; subst f4_; subst f5_))
                              refine hK.out _ _ ⟨(blk_cell BK331.out 0).trans rfl, (blk_cell BK331.out 1).trans rfl⟩ (fun hHeld => ?_)
                              clear hK K
                              refine norm_ (a' := ?_) ?_ ?_
                              rotate_left
                              · show Act.put _ (some 14) _ = _
                                simp only [Act.put, List.setIfInBounds_toArray, List.set_cons_zero, List.set_cons_succ, i64_w, i32_w]
                                rfl
                              refine one_ (i := 8) (N := some 61) #[true, true, true, true, true, true, true, true, true, true, false] rfl rfl (one_of HT_.out (by kernel_rfl)) (by decide) (fun K hK => ?_)
                              refine goes_ Tryd.func22 (by kernel_rfl) rfl #[.agg #[.bool t346, .slice Ao113 t347.length co113], .agg #[.bool t350, .slice Ao114 t351.length co114]] (by rfl) rfl rfl qe_ ?_
                              with_reducible refine (merinoref01_Times.calls kj6 t346 _ _ t347 t350 _ _ t351 t354 t355 _ ?side1 ?side2 ?side3 ?side4 A23.out).mono ?_
                              (case side1 => exact qc_ (Kd.R_reads' HO349.out).2.2)
                              (case side2 => exact (Kd.R_reads' HO349.out).2.1)
                              (case side3 => exact qc_ (Kd.R_reads' HO353.out).2.2)
                              (case side4 => exact (Kd.R_reads' HO353.out).2.1)
                              rintro e w115 ⟨v356, rfl, ho0, hb⟩
                              refine ⟨_, rfl, ?_⟩
                              have n0_ := Aside0.mk (Kd.R_elder' (qr_ HO336.out) (Kd.R_base ho0) hb)
                              have n1_ := Aside0.mk (Kd.R_elder' (qr_ HO340.out) (Kd.R_base ho0) hb)
                              have n2_ := Aside0.mk (Kd.R_elder' (qr_ HO344.out) (Kd.R_base ho0) hb)
                              have n3_ := Aside0.mk (Kd.R_elder' (qr_ HO349.out) (Kd.R_base ho0) hb)
                              have n4_ := Aside0.mk (Kd.R_elder' (qr_ HO353.out) (Kd.R_base ho0) hb)
                              have n5_ := Aside0.mk (Kd.R_lower (Kd.R_new' (Kd.R_new' (Kd.R_new' (Kd.R_new' (Kd.R_new' ho0 (Kd.R_lt (qr_ HO336.out))) (Kd.R_lt (qr_ HO340.out))) (Kd.R_lt (qr_ HO344.out))) (Kd.R_lt (qr_ HO349.out))) (Kd.R_lt (qr_ HO353.out))) (below_size (q3_ HB.out GE331.out GE345.out GE358.out)))
                              have n6_ := Aside0.mk (blk_below (g := gb331) (o := .cells #[.int .i64 t328, .int .i64 t329] 23 (0, 0)) (qb_ BK331.out) hb)
                              have n7_ := Aside0.mk (blk_below (g := gb345) (o := .cells #[.bool t341, .slice Ao107 t342.length co107] 31 (0, 0)) (qb_ BK345.out) hb)
                              have n8_ := Aside0.mk (blk_below (g := gb358) (o := .cells #[.bool false, .slice none 0 0] 31 (0, 0)) (qb_ BK358.out) hb)
                              have n9_ := Aside0.mk (below_step (q3_ HB.out GE331.out GE345.out GE358.out) hb)
                              clear HO336
                              clear HO340
                              clear HO344
                              clear HO349
                              clear HO353
                              clear BK331
                              clear BK345
                              clear BK358
                              clear HB
                              have HO336 := n0_
                              have HO340 := n1_
                              have HO344 := n2_
                              have HO349 := n3_
                              have HO353 := n4_
                              have HO357 := n5_
                              have BK331 := n6_
                              have BK345 := n7_
                              have BK358 := n8_
                              have HB := n9_
                              clear n0_ n1_ n2_ n3_ n4_ n5_ n6_ n7_ n8_ n9_
                              (try clear hb)
                              (try clear hb2)
                              (try clear hk)
                              (try clear hi)
                              (try clear ho0)
                              refine hK.out _ _ ⟨(blk_cell BK331.out 0).trans rfl, (blk_cell BK331.out 1).trans rfl⟩ (fun hHeld => ?_)
                              clear hK K
                              refine norm_ (a' := ?_) ?_ ?_
                              rotate_left
                              · show Act.put _ (some 61) _ = _
                                simp only [Act.put, List.setIfInBounds_toArray, List.set_cons_zero, List.set_cons_succ, i64_w, i32_w]
                                rfl
                              exact norm_ (by simp only [putAll, Act.put, List.setIfInBounds_toArray, List.set_cons_zero, List.set_cons_succ]) (hCont (.slice Ao113 t347.length co113, .slice Ao114 t351.length co114, v356, gb358) _ ⟨hHeld, (by (with_reducible repeat (first | apply Kd.R_alloc | apply Kd.R_drewN | apply Kd.R_drew)); exact Kd.R_mono HO336.out (fun _ hk => ⟨hk.1.1.1.1, ⟨hk.1.1.1.2, ⟨hk.1.1.2, ⟨hk.1.2, hk.2⟩⟩⟩⟩)), (by (with_reducible repeat (first | apply Kd.R_alloc | apply Kd.R_drewN | apply Kd.R_drew)); exact Kd.R_mono HO340.out (fun _ hk => ⟨hk.1.1.1.1, ⟨hk.1.1.1.2, ⟨hk.1.1.2, ⟨hk.1.2, hk.2⟩⟩⟩⟩)), (by (with_reducible repeat (first | apply Kd.R_alloc | apply Kd.R_drewN | apply Kd.R_drew)); exact Kd.R_mono HO344.out (fun _ hk => ⟨hk.1.1.1.1, ⟨hk.1.1.1.2, ⟨hk.1.1.2, ⟨hk.1.2, hk.2⟩⟩⟩⟩)), (by (with_reducible repeat (first | apply Kd.R_alloc | apply Kd.R_drewN | apply Kd.R_drew)); exact Kd.R_mono HO349.out (fun _ hk => ⟨hk.1.1.1.1.2, ⟨hk.1.1.1.2, ⟨hk.1.1.2, ⟨hk.1.2, hk.2⟩⟩⟩⟩)), (by (with_reducible repeat (first | apply Kd.R_alloc | apply Kd.R_drewN | apply Kd.R_drew)); exact Kd.R_mono HO353.out (fun _ hk => ⟨hk.1.1.1.1.2, ⟨hk.1.1.1.2, ⟨hk.1.1.2, ⟨hk.1.2, hk.2⟩⟩⟩⟩)), (by (with_reducible repeat (first | apply Kd.R_alloc | apply Kd.R_drewN | apply Kd.R_drew)); exact Kd.R_mono HO357.out (fun _ hk => ⟨hk.1.1.1.1.2, ⟨hk.1.1.1.2, ⟨hk.1.1.2, ⟨hk.1.2, hk.2⟩⟩⟩⟩)), (qb_ BK331.out), (qb_ BK345.out), (qb_ BK358.out), GW358.out, GE358.out, NB331_358.out, NB358_331.out, NB345_358.out, NB358_345.out, (q3_ HB.out GE331.out GE345.out GE358.out)⟩)
                          · skip
                            refine box_step ?hg (N := 14) ?hd (cs := #[.bool false, .slice none 0 0]) (t := 31) ?hr ?_; (case hd => rfl); (case hg => rfl); (case hr => first | (go_simp; done) | (go_simp; rfl))
                            intro gb358 hg w111 hbox hb
                            have n0_ := Aside0.mk (Kd.R_below (qr_ HO336.out) hb)
                            have n1_ := Aside0.mk (Kd.R_below (qr_ HO340.out) hb)
                            have n2_ := Aside0.mk (Kd.R_below (qr_ HO344.out) hb)
                            have n3_ := Aside0.mk (Kd.R_below (qr_ HO349.out) hb)
                            have n4_ := Aside0.mk (blk_below (g := gb331) (o := .cells #[.int .i64 t328, .int .i64 t329] 23 (0, 0)) (qb_ BK331.out) hb)
                            have n5_ := Aside0.mk (blk_below (g := gb345) (o := .cells #[.bool t341, .slice Ao107 t342.length co107] 31 (0, 0)) (qb_ BK345.out) hb)
                            have n6_ := Aside0.mk (below_step (q2_ HB.out GE331.out GE345.out) hb)
                            have n7_ := Aside0.mk (hbox)
                            have n8_ := Aside0.mk ((by rw [hg]; exact (below_size (q2_ HB.out GE331.out GE345.out)) : w.heap.size ≤ gb358))
                            have n9_ := Aside0.mk ((by rw [hg]; exact (below_size (q2_ HB.out GE331.out GE345.out)) : w.heap.size ≤ gb358))
                            have n10_ := Aside0.mk ((by rw [hg]; exact Nat.ne_of_lt (blk_lt (g := gb331) (o := .cells #[.int .i64 t328, .int .i64 t329] 23 (0, 0)) (qb_ BK331.out)) : gb331 ≠ gb358))
                            have n11_ := Aside0.mk ((by rw [hg]; exact Nat.ne_of_gt (blk_lt (g := gb331) (o := .cells #[.int .i64 t328, .int .i64 t329] 23 (0, 0)) (qb_ BK331.out)) : gb358 ≠ gb331))
                            have n12_ := Aside0.mk ((by rw [hg]; exact Nat.ne_of_lt (blk_lt (g := gb345) (o := .cells #[.bool t341, .slice Ao107 t342.length co107] 31 (0, 0)) (qb_ BK345.out)) : gb345 ≠ gb358))
                            have n13_ := Aside0.mk ((by rw [hg]; exact Nat.ne_of_gt (blk_lt (g := gb345) (o := .cells #[.bool t341, .slice Ao107 t342.length co107] 31 (0, 0)) (qb_ BK345.out)) : gb358 ≠ gb345))
                            clear HO336
                            clear HO340
                            clear HO344
                            clear HO349
                            clear BK331
                            clear BK345
                            clear HB
                            have HO336 := n0_
                            have HO340 := n1_
                            have HO344 := n2_
                            have HO349 := n3_
                            have BK331 := n4_
                            have BK345 := n5_
                            have HB := n6_
                            have BK358 := n7_
                            have GW358 := n8_
                            have GE358 := n9_
                            have NB331_358 := n10_
                            have NB358_331 := n11_
                            have NB345_358 := n12_
                            have NB358_345 := n13_
                            clear n0_ n1_ n2_ n3_ n4_ n5_ n6_ n7_ n8_ n9_ n10_ n11_ n12_ n13_
                            clear hb hbox hg
                            refine hK.out _ _ ⟨(blk_cell BK331.out 0).trans rfl, (blk_cell BK331.out 1).trans rfl⟩ (fun hHeld => ?_)
                            clear hK K
                            refine norm_ (a' := ?_) ?_ ?_
                            rotate_left
                            · show Act.put _ (some 14) _ = _
                              simp only [Act.put, List.setIfInBounds_toArray, List.set_cons_zero, List.set_cons_succ, i64_w, i32_w]
                              rfl
                            refine one_ (i := 7) (N := some 60) #[true, true, true, true, true, true, true, true, false, true, false] rfl rfl (one_of HT_.out (by kernel_rfl)) (by decide) (fun K hK => ?_)
                            refine goes_ Tryd.func24 (by kernel_rfl) rfl #[.int .i64 t329] (by rfl) rfl rfl qe_ ?_
                            with_reducible refine (merinoref01_Of.calls kj6 t329 t350 t351 _ A22.out).mono ?_
                            rintro e w112 ⟨v352, rfl, ho0, hb⟩
                            refine ⟨_, rfl, ?_⟩
                            have n0_ := Aside0.mk (Kd.R_elder' (qr_ HO336.out) (Kd.R_base ho0) hb)
                            have n1_ := Aside0.mk (Kd.R_elder' (qr_ HO340.out) (Kd.R_base ho0) hb)
                            have n2_ := Aside0.mk (Kd.R_elder' (qr_ HO344.out) (Kd.R_base ho0) hb)
                            have n3_ := Aside0.mk (Kd.R_elder' (qr_ HO349.out) (Kd.R_base ho0) hb)
                            have n4_ := Aside0.mk (Kd.R_lower (Kd.R_new' (Kd.R_new' (Kd.R_new' (Kd.R_new' ho0 (Kd.R_lt (qr_ HO336.out))) (Kd.R_lt (qr_ HO340.out))) (Kd.R_lt (qr_ HO344.out))) (Kd.R_lt (qr_ HO349.out))) (below_size (q3_ HB.out GE331.out GE345.out GE358.out)))
                            have n5_ := Aside0.mk (blk_below (g := gb331) (o := .cells #[.int .i64 t328, .int .i64 t329] 23 (0, 0)) (qb_ BK331.out) hb)
                            have n6_ := Aside0.mk (blk_below (g := gb345) (o := .cells #[.bool t341, .slice Ao107 t342.length co107] 31 (0, 0)) (qb_ BK345.out) hb)
                            have n7_ := Aside0.mk (blk_below (g := gb358) (o := .cells #[.bool false, .slice none 0 0] 31 (0, 0)) (qb_ BK358.out) hb)
                            have n8_ := Aside0.mk (below_step (q3_ HB.out GE331.out GE345.out GE358.out) hb)
                            clear HO336
                            clear HO340
                            clear HO344
                            clear HO349
                            clear BK331
                            clear BK345
                            clear BK358
                            clear HB
                            have HO336 := n0_
                            have HO340 := n1_
                            have HO344 := n2_
                            have HO349 := n3_
                            have HO353 := n4_
                            have BK331 := n5_
                            have BK345 := n6_
                            have BK358 := n7_
                            have HB := n8_
                            clear n0_ n1_ n2_ n3_ n4_ n5_ n6_ n7_ n8_
                            (try clear hb)
                            (try clear hb2)
                            (try clear hk)
                            (try clear hi)
                            (try clear ho0)
                            obtain ⟨Ao113, co113, eo113⟩ := Kd.R_slice HO349.out
                            (first | subst eo113 | (injection eo113 with f1_ f2_ f3_; have f4_ := f1_.symm; have f5_ := f3_.symm; clear f1_ f2_ f3_; subst f4_; subst f5_))
                            obtain ⟨Ao114, co114, eo114⟩ := Kd.R_slice HO353.out
                            (first | subst eo114 | (injection eo114 with f1_ f2_ f3_; have f4_ := f1_.symm; have f5_ := f3_.symm; clear f1_ f2_ f3_; subst f4_; subst f5_))
                            refine hK.out _ _ ⟨(blk_cell BK331.out 0).trans rfl, (blk_cell BK331.out 1).trans rfl⟩ (fun hHeld => ?_)
                            clear hK K
                            refine norm_ (a' := ?_) ?_ ?_
                            rotate_left
                            · show Act.put _ (some 60) _ = _
                              simp only [Act.put, List.setIfInBounds_toArray, List.set_cons_zero, List.set_cons_succ, i64_w, i32_w]
                              rfl
                            refine one_ (i := 8) (N := some 61) #[true, true, true, true, true, true, true, true, true, true, false] rfl rfl (one_of HT_.out (by kernel_rfl)) (by decide) (fun K hK => ?_)
                            refine goes_ Tryd.func22 (by kernel_rfl) rfl #[.agg #[.bool t346, .slice Ao113 t347.length co113], .agg #[.bool t350, .slice Ao114 t351.length co114]] (by rfl) rfl rfl qe_ ?_
                            with_reducible refine (merinoref01_Times.calls kj6 t346 _ _ t347 t350 _ _ t351 t354 t355 _ ?side1 ?side2 ?side3 ?side4 A23.out).mono ?_
                            (case side1 => exact qc_ (Kd.R_reads' HO349.out).2.2)
                            (case side2 => exact (Kd.R_reads' HO349.out).2.1)
                            (case side3 => exact qc_ (Kd.R_reads' HO353.out).2.2)
                            (case side4 => exact (Kd.R_reads' HO353.out).2.1)
                            rintro e w115 ⟨v356, rfl, ho0, hb⟩
                            refine ⟨_, rfl, ?_⟩
                            have n0_ := Aside0.mk (Kd.R_elder' (qr_ HO336.out) (Kd.R_base ho0) hb)
                            have n1_ := Aside0.mk (Kd.R_elder' (qr_ HO340.out) (Kd.R_base ho0) hb)
                            have n2_ := Aside0.mk (Kd.R_elder' (qr_ HO344.out) (Kd.R_base ho0) hb)
                            have n3_ := Aside0.mk (Kd.R_elder' (qr_ HO349.out) (Kd.R_base ho0) hb)
                            have n4_ := Aside0.mk (Kd.R_elder' (qr_ HO353.out) (Kd.R_base ho0) hb)
                            have n5_ := Aside0.mk (Kd.R_lower (Kd.R_new' (Kd.R_new' (Kd.R_new' (Kd.R_new' (Kd.R_new' ho0 (Kd.R_lt (qr_ HO336.out))) (Kd.R_lt (qr_ HO340.out))) (Kd.R_lt (qr_ HO344.out))) (Kd.R_lt (qr_ HO349.out))) (Kd.R_lt (qr_ HO353.out))) (below_size (q3_ HB.out GE331.out GE345.out GE358.out)))
                            have n6_ := Aside0.mk (blk_below (g := gb331) (o := .cells #[.int .i64 t328, .int .i64 t329] 23 (0, 0)) (qb_ BK331.out) hb)
                            have n7_ := Aside0.mk (blk_below (g := gb345) (o := .cells #[.bool t341, .slice Ao107 t342.length co107] 31 (0, 0)) (qb_ BK345.out) hb)
                            have n8_ := Aside0.mk (blk_below (g := gb358) (o := .cells #[.bool false, .slice none 0 0] 31 (0, 0)) (qb_ BK358.out) hb)
                            have n9_ := Aside0.mk (below_step (q3_ HB.out GE331.out GE345.out GE358.out) hb)
                            clear HO336
                            clear HO340
                            clear HO344
                            clear HO349
                            clear HO353
                            clear BK331
                            clear BK345
                            clear BK358
                            clear HB
                            have HO336 := n0_
                            have HO340 := n1_
                            have HO344 := n2_
                            have HO349 := n3_
                            have HO353 := n4_
                            have HO357 := n5_
                            have BK331 := n6_
                            have BK345 := n7_
                            have BK358 := n8_
                            have HB := n9_
                            clear n0_ n1_ n2_ n3_ n4_ n5_ n6_ n7_ n8_ n9_
                            (try clear hb)
                            (try clear hb2)
                            (try clear hk)
                            (try clear hi)
                            (try clear ho0)
                            refine hK.out _ _ ⟨(blk_cell BK331.out 0).trans rfl, (blk_cell BK331.out 1).trans rfl⟩ (fun hHeld => ?_)
                            clear hK K
                            refine norm_ (a' := ?_) ?_ ?_
                            rotate_left
                            · show Act.put _ (some 61) _ = _
                              simp only [Act.put, List.setIfInBounds_toArray, List.set_cons_zero, List.set_cons_succ, i64_w, i32_w]
                              rfl
                            exact norm_ (by simp only [putAll, Act.put, List.setIfInBounds_toArray, List.set_cons_zero, List.set_cons_succ]) (hCont (.slice Ao113 t347.length co113, .slice Ao114 t351.length co114, v356, gb358) _ ⟨hHeld, (by (with_reducible repeat (first | apply Kd.R_alloc | apply Kd.R_drewN | apply Kd.R_drew)); exact Kd.R_mono HO336.out (fun _ hk => ⟨hk.1.1.1.1, ⟨hk.1.1.1.2, ⟨hk.1.1.2, ⟨hk.1.2, hk.2⟩⟩⟩⟩)), (by (with_reducible repeat (first | apply Kd.R_alloc | apply Kd.R_drewN | apply Kd.R_drew)); exact Kd.R_mono HO340.out (fun _ hk => ⟨hk.1.1.1.1, ⟨hk.1.1.1.2, ⟨hk.1.1.2, ⟨hk.1.2, hk.2⟩⟩⟩⟩)), (by (with_reducible repeat (first | apply Kd.R_alloc | apply Kd.R_drewN | apply Kd.R_drew)); exact Kd.R_mono HO344.out (fun _ hk => ⟨hk.1.1.1.1, ⟨hk.1.1.1.2, ⟨hk.1.1.2, ⟨hk.1.2, hk.2⟩⟩⟩⟩)), (by (with_reducible repeat (first | apply Kd.R_alloc | apply Kd.R_drewN | apply Kd.R_drew)); exact Kd.R_mono HO349.out (fun _ hk => ⟨hk.1.1.1.1.2, ⟨hk.1.1.1.2, ⟨hk.1.1.2, ⟨hk.1.2, hk.2⟩⟩⟩⟩)), (by (with_reducible repeat (first | apply Kd.R_alloc | apply Kd.R_drewN | apply Kd.R_drew)); exact Kd.R_mono HO353.out (fun _ hk => ⟨hk.1.1.1.1.2, ⟨hk.1.1.1.2, ⟨hk.1.1.2, ⟨hk.1.2, hk.2⟩⟩⟩⟩)), (by (with_reducible repeat (first | apply Kd.R_alloc | apply Kd.R_drewN | apply Kd.R_drew)); exact Kd.R_mono HO357.out (fun _ hk => ⟨hk.1.1.1.1.2, ⟨hk.1.1.1.2, ⟨hk.1.1.2, ⟨hk.1.2, hk.2⟩⟩⟩⟩)), (qb_ BK331.out), (qb_ BK345.out), (qb_ BK358.out), GW358.out, GE358.out, NB331_358.out, NB358_331.out, NB345_358.out, NB358_345.out, (q3_ HB.out GE331.out GE345.out GE358.out)⟩)
                        · skip
                          refine box_step ?hg (N := 14) ?hd (cs := #[.bool false, .slice none 0 0]) (t := 31) ?hr ?_; (case hd => rfl); (case hg => rfl); (case hr => first | (go_simp; done) | (go_simp; rfl))
                          intro gb358 hg w110 hbox hb
                          have n0_ := Aside0.mk (Kd.R_below (qr_ HO336.out) hb)
                          have n1_ := Aside0.mk (Kd.R_below (qr_ HO340.out) hb)
                          have n2_ := Aside0.mk (Kd.R_below (qr_ HO344.out) hb)
                          have n3_ := Aside0.mk (blk_below (g := gb331) (o := .cells #[.int .i64 t328, .int .i64 t329] 23 (0, 0)) (qb_ BK331.out) hb)
                          have n4_ := Aside0.mk (blk_below (g := gb345) (o := .cells #[.bool t341, .slice Ao107 t342.length co107] 31 (0, 0)) (qb_ BK345.out) hb)
                          have n5_ := Aside0.mk (below_step (q2_ HB.out GE331.out GE345.out) hb)
                          have n6_ := Aside0.mk (hbox)
                          have n7_ := Aside0.mk ((by rw [hg]; exact (below_size (q2_ HB.out GE331.out GE345.out)) : w.heap.size ≤ gb358))
                          have n8_ := Aside0.mk ((by rw [hg]; exact (below_size (q2_ HB.out GE331.out GE345.out)) : w.heap.size ≤ gb358))
                          have n9_ := Aside0.mk ((by rw [hg]; exact Nat.ne_of_lt (blk_lt (g := gb331) (o := .cells #[.int .i64 t328, .int .i64 t329] 23 (0, 0)) (qb_ BK331.out)) : gb331 ≠ gb358))
                          have n10_ := Aside0.mk ((by rw [hg]; exact Nat.ne_of_gt (blk_lt (g := gb331) (o := .cells #[.int .i64 t328, .int .i64 t329] 23 (0, 0)) (qb_ BK331.out)) : gb358 ≠ gb331))
                          have n11_ := Aside0.mk ((by rw [hg]; exact Nat.ne_of_lt (blk_lt (g := gb345) (o := .cells #[.bool t341, .slice Ao107 t342.length co107] 31 (0, 0)) (qb_ BK345.out)) : gb345 ≠ gb358))
                          have n12_ := Aside0.mk ((by rw [hg]; exact Nat.ne_of_gt (blk_lt (g := gb345) (o := .cells #[.bool t341, .slice Ao107 t342.length co107] 31 (0, 0)) (qb_ BK345.out)) : gb358 ≠ gb345))
                          clear HO336
                          clear HO340
                          clear HO344
                          clear BK331
                          clear BK345
                          clear HB
                          have HO336 := n0_
                          have HO340 := n1_
                          have HO344 := n2_
                          have BK331 := n3_
                          have BK345 := n4_
                          have HB := n5_
                          have BK358 := n6_
                          have GW358 := n7_
                          have GE358 := n8_
                          have NB331_358 := n9_
                          have NB358_331 := n10_
                          have NB345_358 := n11_
                          have NB358_345 := n12_
                          clear n0_ n1_ n2_ n3_ n4_ n5_ n6_ n7_ n8_ n9_ n10_ n11_ n12_
                          clear hb hbox hg
                          refine hK.out _ _ ⟨(blk_cell BK331.out 0).trans rfl, (blk_cell BK331.out 1).trans rfl⟩ (fun hHeld => ?_)
                          clear hK K
                          refine norm_ (a' := ?_) ?_ ?_
                          rotate_left
                          · show Act.put _ (some 14) _ = _
                            simp only [Act.put, List.setIfInBounds_toArray, List.set_cons_zero, List.set_cons_succ, i64_w, i32_w]
                            rfl
                          refine one_ (i := 4) (N := some 57) #[true, true, true, true, true, true, true, false, false, true, false] rfl rfl (one_of HT_.out (by kernel_rfl)) (by decide) (fun K hK => ?_)
                          refine goes_ Tryd.func23 (by kernel_rfl) rfl #[.int .i64 a0, .int .i64 a1, .int .i64 a3, .int .i64 a4] (by rfl) rfl rfl qe_ ?_
                          with_reducible refine (merinolaw01_off.calls kj6 a0 a1 a3 a4 t346 t347 _ A21.out).mono ?_
                          rintro e w111 ⟨v348, rfl, ho0, hb⟩
                          refine ⟨_, rfl, ?_⟩
                          have n0_ := Aside0.mk (Kd.R_elder' (qr_ HO336.out) (Kd.R_base ho0) hb)
                          have n1_ := Aside0.mk (Kd.R_elder' (qr_ HO340.out) (Kd.R_base ho0) hb)
                          have n2_ := Aside0.mk (Kd.R_elder' (qr_ HO344.out) (Kd.R_base ho0) hb)
                          have n3_ := Aside0.mk (Kd.R_lower (Kd.R_new' (Kd.R_new' (Kd.R_new' ho0 (Kd.R_lt (qr_ HO336.out))) (Kd.R_lt (qr_ HO340.out))) (Kd.R_lt (qr_ HO344.out))) (below_size (q3_ HB.out GE331.out GE345.out GE358.out)))
                          have n4_ := Aside0.mk (blk_below (g := gb331) (o := .cells #[.int .i64 t328, .int .i64 t329] 23 (0, 0)) (qb_ BK331.out) hb)
                          have n5_ := Aside0.mk (blk_below (g := gb345) (o := .cells #[.bool t341, .slice Ao107 t342.length co107] 31 (0, 0)) (qb_ BK345.out) hb)
                          have n6_ := Aside0.mk (blk_below (g := gb358) (o := .cells #[.bool false, .slice none 0 0] 31 (0, 0)) (qb_ BK358.out) hb)
                          have n7_ := Aside0.mk (below_step (q3_ HB.out GE331.out GE345.out GE358.out) hb)
                          clear HO336
                          clear HO340
                          clear HO344
                          clear BK331
                          clear BK345
                          clear BK358
                          clear HB
                          have HO336 := n0_
                          have HO340 := n1_
                          have HO344 := n2_
                          have HO349 := n3_
                          have BK331 := n4_
                          have BK345 := n5_
                          have BK358 := n6_
                          have HB := n7_
                          clear n0_ n1_ n2_ n3_ n4_ n5_ n6_ n7_
                          (try clear hb)
                          (try clear hb2)
                          (try clear hk)
                          (try clear hi)
                          (try clear ho0)
                          refine hK.out _ _ ⟨(blk_cell BK331.out 0).trans rfl, (blk_cell BK331.out 1).trans rfl⟩ (fun hHeld => ?_)
                          clear hK K
                          refine norm_ (a' := ?_) ?_ ?_
                          rotate_left
                          · show Act.put _ (some 57) _ = _
                            simp only [Act.put, List.setIfInBounds_toArray, List.set_cons_zero, List.set_cons_succ, i64_w, i32_w]
                            rfl
                          refine one_ (i := 7) (N := some 60) #[true, true, true, true, true, true, true, true, false, true, false] rfl rfl (one_of HT_.out (by kernel_rfl)) (by decide) (fun K hK => ?_)
                          refine goes_ Tryd.func24 (by kernel_rfl) rfl #[.int .i64 t329] (by rfl) rfl rfl qe_ ?_
                          with_reducible refine (merinoref01_Of.calls kj6 t329 t350 t351 _ A22.out).mono ?_
                          rintro e w112 ⟨v352, rfl, ho0, hb⟩
                          refine ⟨_, rfl, ?_⟩
                          have n0_ := Aside0.mk (Kd.R_elder' (qr_ HO336.out) (Kd.R_base ho0) hb)
                          have n1_ := Aside0.mk (Kd.R_elder' (qr_ HO340.out) (Kd.R_base ho0) hb)
                          have n2_ := Aside0.mk (Kd.R_elder' (qr_ HO344.out) (Kd.R_base ho0) hb)
                          have n3_ := Aside0.mk (Kd.R_elder' (qr_ HO349.out) (Kd.R_base ho0) hb)
                          have n4_ := Aside0.mk (Kd.R_lower (Kd.R_new' (Kd.R_new' (Kd.R_new' (Kd.R_new' ho0 (Kd.R_lt (qr_ HO336.out))) (Kd.R_lt (qr_ HO340.out))) (Kd.R_lt (qr_ HO344.out))) (Kd.R_lt (qr_ HO349.out))) (below_size (q3_ HB.out GE331.out GE345.out GE358.out)))
                          have n5_ := Aside0.mk (blk_below (g := gb331) (o := .cells #[.int .i64 t328, .int .i64 t329] 23 (0, 0)) (qb_ BK331.out) hb)
                          have n6_ := Aside0.mk (blk_below (g := gb345) (o := .cells #[.bool t341, .slice Ao107 t342.length co107] 31 (0, 0)) (qb_ BK345.out) hb)
                          have n7_ := Aside0.mk (blk_below (g := gb358) (o := .cells #[.bool false, .slice none 0 0] 31 (0, 0)) (qb_ BK358.out) hb)
                          have n8_ := Aside0.mk (below_step (q3_ HB.out GE331.out GE345.out GE358.out) hb)
                          clear HO336
                          clear HO340
                          clear HO344
                          clear HO349
                          clear BK331
                          clear BK345
                          clear BK358
                          clear HB
                          have HO336 := n0_
                          have HO340 := n1_
                          have HO344 := n2_
                          have HO349 := n3_
                          have HO353 := n4_
                          have BK331 := n5_
                          have BK345 := n6_
                          have BK358 := n7_
                          have HB := n8_
                          clear n0_ n1_ n2_ n3_ n4_ n5_ n6_ n7_ n8_
                          (try clear hb)
                          (try clear hb2)
                          (try clear hk)
                          (try clear hi)
                          (try clear ho0)
                          obtain ⟨Ao113, co113, eo113⟩ := Kd.R_slice HO349.out
                          (first | subst eo113 | (injection eo113 with f1_ f2_ f3_; have f4_ := f1_.symm; have f5_ := f3_.symm; clear f1_ f2_ f3_; subst f4_; subst f5_))
                          obtain ⟨Ao114, co114, eo114⟩ := Kd.R_slice HO353.out
                          (first | subst eo114 | (injection eo114 with f1_ f2_ f3_; have f4_ := f1_.symm; have f5_ := f3_.symm; clear f1_ f2_ f3_; subst f4_; subst f5_))
                          refine hK.out _ _ ⟨(blk_cell BK331.out 0).trans rfl, (blk_cell BK331.out 1).trans rfl⟩ (fun hHeld => ?_)
                          clear hK K
                          refine norm_ (a' := ?_) ?_ ?_
                          rotate_left
                          · show Act.put _ (some 60) _ = _
                            simp only [Act.put, List.setIfInBounds_toArray, List.set_cons_zero, List.set_cons_succ, i64_w, i32_w]
                            rfl
                          refine one_ (i := 8) (N := some 61) #[true, true, true, true, true, true, true, true, true, true, false] rfl rfl (one_of HT_.out (by kernel_rfl)) (by decide) (fun K hK => ?_)
                          refine goes_ Tryd.func22 (by kernel_rfl) rfl #[.agg #[.bool t346, .slice Ao113 t347.length co113], .agg #[.bool t350, .slice Ao114 t351.length co114]] (by rfl) rfl rfl qe_ ?_
                          with_reducible refine (merinoref01_Times.calls kj6 t346 _ _ t347 t350 _ _ t351 t354 t355 _ ?side1 ?side2 ?side3 ?side4 A23.out).mono ?_
                          (case side1 => exact qc_ (Kd.R_reads' HO349.out).2.2)
                          (case side2 => exact (Kd.R_reads' HO349.out).2.1)
                          (case side3 => exact qc_ (Kd.R_reads' HO353.out).2.2)
                          (case side4 => exact (Kd.R_reads' HO353.out).2.1)
                          rintro e w115 ⟨v356, rfl, ho0, hb⟩
                          refine ⟨_, rfl, ?_⟩
                          have n0_ := Aside0.mk (Kd.R_elder' (qr_ HO336.out) (Kd.R_base ho0) hb)
                          have n1_ := Aside0.mk (Kd.R_elder' (qr_ HO340.out) (Kd.R_base ho0) hb)
                          have n2_ := Aside0.mk (Kd.R_elder' (qr_ HO344.out) (Kd.R_base ho0) hb)
                          have n3_ := Aside0.mk (Kd.R_elder' (qr_ HO349.out) (Kd.R_base ho0) hb)
                          have n4_ := Aside0.mk (Kd.R_elder' (qr_ HO353.out) (Kd.R_base ho0) hb)
                          have n5_ := Aside0.mk (Kd.R_lower (Kd.R_new' (Kd.R_new' (Kd.R_new' (Kd.R_new' (Kd.R_new' ho0 (Kd.R_lt (qr_ HO336.out))) (Kd.R_lt (qr_ HO340.out))) (Kd.R_lt (qr_ HO344.out))) (Kd.R_lt (qr_ HO349.out))) (Kd.R_lt (qr_ HO353.out))) (below_size (q3_ HB.out GE331.out GE345.out GE358.out)))
                          have n6_ := Aside0.mk (blk_below (g := gb331) (o := .cells #[.int .i64 t328, .int .i64 t329] 23 (0, 0)) (qb_ BK331.out) hb)
                          have n7_ := Aside0.mk (blk_below (g := gb345) (o := .cells #[.bool t341, .slice Ao107 t342.length co107] 31 (0, 0)) (qb_ BK345.out) hb)
                          have n8_ := Aside0.mk (blk_below (g := gb358) (o := .cells #[.bool false, .slice none 0 0] 31 (0, 0)) (qb_ BK358.out) hb)
                          have n9_ := Aside0.mk (below_step (q3_ HB.out GE331.out GE345.out GE358.out) hb)
                          clear HO336
                          clear HO340
                          clear HO344
                          clear HO349
                          clear HO353
                          clear BK331
                          clear BK345
                          clear BK358
                          clear HB
                          have HO336 := n0_
                          have HO340 := n1_
                          have HO344 := n2_
                          have HO349 := n3_
                          have HO353 := n4_
                          have HO357 := n5_
                          have BK331 := n6_
                          have BK345 := n7_
                          have BK358 := n8_
                          have HB := n9_
                          clear n0_ n1_ n2_ n3_ n4_ n5_ n6_ n7_ n8_ n9_
                          (try clear hb)
                          (try clear hb2)
                          (try clear hk)
                          (try clear hi)
                          (try clear ho0)
                          refine hK.out _ _ ⟨(blk_cell BK331.out 0).trans rfl, (blk_cell BK331.out 1).trans rfl⟩ (fun hHeld => ?_)
                          clear hK K
                          refine norm_ (a' := ?_) ?_ ?_
                          rotate_left
                          · show Act.put _ (some 61) _ = _
                            simp only [Act.put, List.setIfInBounds_toArray, List.set_cons_zero, List.set_cons_succ, i64_w, i32_w]
                            rfl
                          exact norm_ (by simp only [putAll, Act.put, List.setIfInBounds_toArray, List.set_cons_zero, List.set_cons_succ]) (hCont (.slice Ao113 t347.length co113, .slice Ao114 t351.length co114, v356, gb358) _ ⟨hHeld, (by (with_reducible repeat (first | apply Kd.R_alloc | apply Kd.R_drewN | apply Kd.R_drew)); exact Kd.R_mono HO336.out (fun _ hk => ⟨hk.1.1.1.1, ⟨hk.1.1.1.2, ⟨hk.1.1.2, ⟨hk.1.2, hk.2⟩⟩⟩⟩)), (by (with_reducible repeat (first | apply Kd.R_alloc | apply Kd.R_drewN | apply Kd.R_drew)); exact Kd.R_mono HO340.out (fun _ hk => ⟨hk.1.1.1.1, ⟨hk.1.1.1.2, ⟨hk.1.1.2, ⟨hk.1.2, hk.2⟩⟩⟩⟩)), (by (with_reducible repeat (first | apply Kd.R_alloc | apply Kd.R_drewN | apply Kd.R_drew)); exact Kd.R_mono HO344.out (fun _ hk => ⟨hk.1.1.1.1, ⟨hk.1.1.1.2, ⟨hk.1.1.2, ⟨hk.1.2, hk.2⟩⟩⟩⟩)), (by (with_reducible repeat (first | apply Kd.R_alloc | apply Kd.R_drewN | apply Kd.R_drew)); exact Kd.R_mono HO349.out (fun _ hk => ⟨hk.1.1.1.1.2, ⟨hk.1.1.1.2, ⟨hk.1.1.2, ⟨hk.1.2, hk.2⟩⟩⟩⟩)), (by (with_reducible repeat (first | apply Kd.R_alloc | apply Kd.R_drewN | apply Kd.R_drew)); exact Kd.R_mono HO353.out (fun _ hk => ⟨hk.1.1.1.1.2, ⟨hk.1.1.1.2, ⟨hk.1.1.2, ⟨hk.1.2, hk.2⟩⟩⟩⟩)), (by (with_reducible repeat (first | apply Kd.R_alloc | apply Kd.R_drewN | apply Kd.R_drew)); exact Kd.R_mono HO357.out (fun _ hk => ⟨hk.1.1.1.1.2, ⟨hk.1.1.1.2, ⟨hk.1.1.2, ⟨hk.1.2, hk.2⟩⟩⟩⟩)), (qb_ BK331.out), (qb_ BK345.out), (qb_ BK358.out), GW358.out, GE358.out, NB331_358.out, NB358_331.out, NB345_358.out, NB358_345.out, (q3_ HB.out GE331.out GE345.out GE358.out)⟩)
                      rintro ⟨v348, v352, v356, gb358⟩ w116 ⟨hS_, h0_, h1_, h2_, h3_, h4_, h5_, h6_, h7_, h8_, h9_, h10_, h11_, h12_, h13_, h14_, h15_⟩
                      have n0_ : Aside0 (Kd.R (Kd.int .i64) 3 w116 w.heap.size (fun k_ => some k_ ≠ (.slice Ao102 t338.length co102 : Value).ownBlock ∧ some k_ ≠ (.slice Ao107 t342.length co107 : Value).ownBlock ∧ some k_ ≠ (v348 : Value).ownBlock ∧ some k_ ≠ (v352 : Value).ownBlock ∧ some k_ ≠ (v356 : Value).ownBlock) (.slice Ao101 t334.length co101) t334) := ⟨h0_⟩
                      have n1_ : Aside0 (Kd.R (Kd.int .i64) 3 w116 w.heap.size (fun k_ => some k_ ≠ (.slice Ao101 t334.length co101 : Value).ownBlock ∧ some k_ ≠ (.slice Ao107 t342.length co107 : Value).ownBlock ∧ some k_ ≠ (v348 : Value).ownBlock ∧ some k_ ≠ (v352 : Value).ownBlock ∧ some k_ ≠ (v356 : Value).ownBlock) (.slice Ao102 t338.length co102) t338) := ⟨h1_⟩
                      have n2_ : Aside0 (Kd.R (Kd.int .i64) 3 w116 w.heap.size (fun k_ => some k_ ≠ (.slice Ao101 t334.length co101 : Value).ownBlock ∧ some k_ ≠ (.slice Ao102 t338.length co102 : Value).ownBlock ∧ some k_ ≠ (v348 : Value).ownBlock ∧ some k_ ≠ (v352 : Value).ownBlock ∧ some k_ ≠ (v356 : Value).ownBlock) (.slice Ao107 t342.length co107) t342) := ⟨h2_⟩
                      have n3_ : Aside0 (Kd.R (Kd.int .i64) 3 w116 w.heap.size (fun k_ => some k_ ≠ (.slice Ao101 t334.length co101 : Value).ownBlock ∧ some k_ ≠ (.slice Ao102 t338.length co102 : Value).ownBlock ∧ some k_ ≠ (.slice Ao107 t342.length co107 : Value).ownBlock ∧ some k_ ≠ (v352 : Value).ownBlock ∧ some k_ ≠ (v356 : Value).ownBlock) v348 t347) := ⟨h3_⟩
                      have n4_ : Aside0 (Kd.R (Kd.int .i64) 3 w116 w.heap.size (fun k_ => some k_ ≠ (.slice Ao101 t334.length co101 : Value).ownBlock ∧ some k_ ≠ (.slice Ao102 t338.length co102 : Value).ownBlock ∧ some k_ ≠ (.slice Ao107 t342.length co107 : Value).ownBlock ∧ some k_ ≠ (v348 : Value).ownBlock ∧ some k_ ≠ (v356 : Value).ownBlock) v352 t351) := ⟨h4_⟩
                      have n5_ : Aside0 (Kd.R (Kd.int .i64) 3 w116 w.heap.size (fun k_ => some k_ ≠ (.slice Ao101 t334.length co101 : Value).ownBlock ∧ some k_ ≠ (.slice Ao102 t338.length co102 : Value).ownBlock ∧ some k_ ≠ (.slice Ao107 t342.length co107 : Value).ownBlock ∧ some k_ ≠ (v348 : Value).ownBlock ∧ some k_ ≠ (v352 : Value).ownBlock) v356 t355) := ⟨h5_⟩
                      have n6_ : Aside0 (w116.heap[gb331]? = some (.cells #[.int .i64 t328, .int .i64 t329] 23 (0, 0))) := ⟨h6_⟩
                      have n7_ : Aside0 (w116.heap[gb345]? = some (.cells #[.bool t341, .slice Ao107 t342.length co107] 31 (0, 0))) := ⟨h7_⟩
                      have n8_ : Aside0 (w116.heap[gb358]? = some (.cells #[.bool false, .slice none 0 0] 31 (0, 0))) := ⟨h8_⟩
                      have n9_ : Aside0 (w.heap.size ≤ gb358) := ⟨h9_⟩
                      have n10_ : Aside0 (w.heap.size ≤ gb358) := ⟨h10_⟩
                      have n11_ : Aside0 (gb331 ≠ gb358) := ⟨h11_⟩
                      have n12_ : Aside0 (gb358 ≠ gb331) := ⟨h12_⟩
                      have n13_ : Aside0 (gb345 ≠ gb358) := ⟨h13_⟩
                      have n14_ : Aside0 (gb358 ≠ gb345) := ⟨h14_⟩
                      have n15_ : Aside0 (Below w.heap.size w w116) := ⟨h15_⟩
                      clear HO336
                      clear HO340
                      clear HO344
                      clear BK331
                      clear BK345
                      clear HB
                      clear h0_ h1_ h2_ h3_ h4_ h5_ h6_ h7_ h8_ h9_ h10_ h11_ h12_ h13_ h14_ h15_
                      have HO336 := n0_
                      have HO340 := n1_
                      have HO344 := n2_
                      have HO349 := n3_
                      have HO353 := n4_
                      have HO357 := n5_
                      have BK331 := n6_
                      have BK345 := n7_
                      have BK358 := n8_
                      have GW358 := n9_
                      have GE358 := n10_
                      have NB331_358 := n11_
                      have NB358_331 := n12_
                      have NB345_358 := n13_
                      have NB358_345 := n14_
                      have HB := n15_
                      clear n0_ n1_ n2_ n3_ n4_ n5_ n6_ n7_ n8_ n9_ n10_ n11_ n12_ n13_ n14_ n15_
                      have hHeld : w116.cell? ⟨gb331, 0, none⟩ = some (.int .i64 t328) ∧ w116.cell? ⟨gb331, 1, none⟩ = some (.int .i64 t329) := hS_
                      obtain ⟨Ao118, co118, eo118⟩ := Kd.R_slice HO357.out
                      (first | subst eo118 | (injection eo118 with f1_ f2_ f3_; have f4_ := f1_.symm; have f5_ := f3_.symm; clear f1_ f2_ f3_; subst f4_; subst f5_))
                      refine norm_ (a' := ?_) ?_ ?_
                      rotate_left
                      · simp only [putAll, Act.put, List.setIfInBounds_toArray, List.set_cons_zero, List.set_cons_succ]
                        rfl
                      refine one_ (i := 10) (N := none) #[true, true, true, true, true, true, true, true, true, true, true] rfl rfl (one_of HT_.out (by kernel_rfl)) (by decide) (fun K hK => ?_)
                      have hs117 : w116.cell? ⟨gb358, 0, none⟩ = some (.bool false) := (blk_cell BK358.out 0).trans rfl
                      have hfs117 := blk_frozen BK358.out 0
                      have hns117_0 := NB331_358.out
                      have hns117_1 := NB345_358.out
                      have hms117_0 := NB358_331.out
                      have hms117_1 := NB358_345.out
                      have hs119 : w116.cell? ⟨gb358, 1, none⟩ = some (.slice none 0 0) := (blk_cell BK358.out 1).trans rfl
                      have hfs119 := blk_frozen BK358.out 1
                      have hns119_0 := NB331_358.out
                      have hns119_1 := NB345_358.out
                      have hms119_0 := NB358_331.out
                      have hms119_1 := NB358_345.out
                      refine skip_ (w1 := ?_) (by rfl) rfl ?_ ?_
                      rotate_left
                      · go_simp
                        rfl
                      refine hK.out _ _ ⟨((cell_far (p := ⟨gb358, _, none⟩) NB331_358.out _).trans (((cell_far (p := ⟨gb358, _, none⟩) NB331_358.out _).trans (hHeld.1)))), ((cell_far (p := ⟨gb358, _, none⟩) NB331_358.out _).trans (((cell_far (p := ⟨gb358, _, none⟩) NB331_358.out _).trans (hHeld.2))))⟩ (fun hHeld => ?_)
                      clear hK K
                      refine done_ (done_of HT_.out (by kernel_rfl)) ?_
                      have hnb120 := NB345_358.out
                      have hnc120 := NB358_345.out
                      have hcz121_0 : w116.cell? ⟨gb345, 0, none⟩ = some (.bool t341) := (blk_cell BK345.out 0).trans rfl
                      have hcz121_1 : w116.cell? ⟨gb345, 1, none⟩ = some (.slice Ao107 t342.length co107) := (blk_cell BK345.out 1).trans rfl
                      have hfz121_0 := blk_frozen BK345.out 0
                      have hfz121_1 := blk_frozen BK345.out 1
                      have hnb122 := NB358_331.out
                      have hnc122 := NB331_358.out
                      have hcz123_0 : w116.cell? ⟨gb358, 0, none⟩ = some (.bool false) := (blk_cell BK358.out 0).trans rfl
                      have hcz123_1 : w116.cell? ⟨gb358, 1, none⟩ = some (.slice none 0 0) := (blk_cell BK358.out 1).trans rfl
                      have hfz123_0 := blk_frozen BK358.out 0
                      have hfz123_1 := blk_frozen BK358.out 1
                      try go_wp2_with (first | ((with_reducible refine gate_callee (f := 25) rfl ?_); refine goesL_ (some 64) rfl rfl Tryd.func25 (by kernel_rfl) rfl #[.agg #[.bool t341, .slice Ao107 t342.length co107], .agg #[.bool t354, .slice Ao118 t355.length co118]] rfl qe_ ?_; (with_reducible refine (merinoref01_Compare.calls kj6 t341 _ _ t342 t354 _ _ t355 t359 _ ?side1 ?side2 ?side3 ?side4 A24.out).mono ?_); (case side1 => refine (Kd.R_reads' (e := 3) (base := w.heap.size) (ok := fun k_ => (some k_ ≠ (.slice Ao101 t334.length co101 : Value).ownBlock ∧ (some k_ ≠ (.slice Ao102 t338.length co102 : Value).ownBlock ∧ (some k_ ≠ (v348 : Value).ownBlock ∧ (some k_ ≠ (v352 : Value).ownBlock ∧ some k_ ≠ (.slice Ao118 t355.length co118 : Value).ownBlock))))) (n := t342.length) (c := co107) ?_).2.2; exact (by (with_reducible repeat (first | apply Kd.R_alloc | apply Kd.R_drewN | apply Kd.R_drew)); exact (Kd.R_mono (Kd.R_far (p := ⟨gb358, 1, none⟩) (Kd.R_far (p := ⟨gb358, 0, none⟩) (Kd.R_types HO344.out BK358.out (by decide)) (fun _ hk => hk.2) (.bool t354)) (fun _ hk => hk.2) (.slice Ao118 t355.length co118)) (fun _ h_ => h_.1)))); (case side2 => exact (Kd.R_reads' HO344.out).2.1); (case side3 => refine (Kd.R_reads' (e := 3) (base := w.heap.size) (ok := fun k_ => (some k_ ≠ (.slice Ao101 t334.length co101 : Value).ownBlock ∧ (some k_ ≠ (.slice Ao102 t338.length co102 : Value).ownBlock ∧ (some k_ ≠ (.slice Ao107 t342.length co107 : Value).ownBlock ∧ (some k_ ≠ (v348 : Value).ownBlock ∧ some k_ ≠ (v352 : Value).ownBlock))))) (n := t355.length) (c := co118) ?_).2.2; exact (by (with_reducible repeat (first | apply Kd.R_alloc | apply Kd.R_drewN | apply Kd.R_drew)); exact (Kd.R_mono (Kd.R_far (p := ⟨gb358, 1, none⟩) (Kd.R_far (p := ⟨gb358, 0, none⟩) (Kd.R_types HO357.out BK358.out (by decide)) (fun _ hk => hk.2) (.bool t354)) (fun _ hk => hk.2) (.slice Ao118 t355.length co118)) (fun _ h_ => h_.1)))); (case side4 => exact (Kd.R_reads' HO357.out).2.1); rintro e w124 ⟨rfl, hb⟩; refine ⟨_, rfl, ?_⟩; have n0_ := Aside0.mk (Kd.R_below (by (with_reducible repeat (first | apply Kd.R_alloc | apply Kd.R_drewN | apply Kd.R_drew)); exact (Kd.R_mono (Kd.R_far (p := ⟨gb358, 1, none⟩) (Kd.R_far (p := ⟨gb358, 0, none⟩) (Kd.R_types HO336.out BK358.out (by decide)) (fun _ hk => hk.2) (.bool t354)) (fun _ hk => hk.2) (.slice Ao118 t355.length co118)) (fun _ h_ => h_.1))) hb); have n1_ := Aside0.mk (Kd.R_below (by (with_reducible repeat (first | apply Kd.R_alloc | apply Kd.R_drewN | apply Kd.R_drew)); exact (Kd.R_mono (Kd.R_far (p := ⟨gb358, 1, none⟩) (Kd.R_far (p := ⟨gb358, 0, none⟩) (Kd.R_types HO340.out BK358.out (by decide)) (fun _ hk => hk.2) (.bool t354)) (fun _ hk => hk.2) (.slice Ao118 t355.length co118)) (fun _ h_ => h_.1))) hb); have n2_ := Aside0.mk (Kd.R_below (by (with_reducible repeat (first | apply Kd.R_alloc | apply Kd.R_drewN | apply Kd.R_drew)); exact (Kd.R_mono (Kd.R_far (p := ⟨gb358, 1, none⟩) (Kd.R_far (p := ⟨gb358, 0, none⟩) (Kd.R_types HO344.out BK358.out (by decide)) (fun _ hk => hk.2) (.bool t354)) (fun _ hk => hk.2) (.slice Ao118 t355.length co118)) (fun _ h_ => h_.1))) hb); have n3_ := Aside0.mk (Kd.R_below (by (with_reducible repeat (first | apply Kd.R_alloc | apply Kd.R_drewN | apply Kd.R_drew)); exact (Kd.R_mono (Kd.R_far (p := ⟨gb358, 1, none⟩) (Kd.R_far (p := ⟨gb358, 0, none⟩) (Kd.R_types HO349.out BK358.out (by decide)) (fun _ hk => hk.2) (.bool t354)) (fun _ hk => hk.2) (.slice Ao118 t355.length co118)) (fun _ h_ => h_.1))) hb); have n4_ := Aside0.mk (Kd.R_below (by (with_reducible repeat (first | apply Kd.R_alloc | apply Kd.R_drewN | apply Kd.R_drew)); exact (Kd.R_mono (Kd.R_far (p := ⟨gb358, 1, none⟩) (Kd.R_far (p := ⟨gb358, 0, none⟩) (Kd.R_types HO353.out BK358.out (by decide)) (fun _ hk => hk.2) (.bool t354)) (fun _ hk => hk.2) (.slice Ao118 t355.length co118)) (fun _ h_ => h_.1))) hb); have n5_ := Aside0.mk (Kd.R_below (by (with_reducible repeat (first | apply Kd.R_alloc | apply Kd.R_drewN | apply Kd.R_drew)); exact (Kd.R_mono (Kd.R_far (p := ⟨gb358, 1, none⟩) (Kd.R_far (p := ⟨gb358, 0, none⟩) (Kd.R_types HO357.out BK358.out (by decide)) (fun _ hk => hk.2) (.bool t354)) (fun _ hk => hk.2) (.slice Ao118 t355.length co118)) (fun _ h_ => h_.1))) hb); have n6_ := Aside0.mk (blk_below (g := gb331) (o := .cells #[.int .i64 t328, .int .i64 t329] 23 (0, 0)) (by (with_reducible repeat (first | refine blk_drewN ?_ _ | refine blk_drew ?_ | refine blk_alloc ?_ _)); refine blk_far ?_ NB331_358.out _; (with_reducible repeat (first | refine blk_drewN ?_ _ | refine blk_drew ?_ | refine blk_alloc ?_ _)); refine blk_far ?_ NB331_358.out _; (with_reducible repeat (first | refine blk_drewN ?_ _ | refine blk_drew ?_ | refine blk_alloc ?_ _)); exact BK331.out) hb); have n7_ := Aside0.mk (blk_below (g := gb345) (o := .cells #[.bool t341, .slice Ao107 t342.length co107] 31 (0, 0)) (by (with_reducible repeat (first | refine blk_drewN ?_ _ | refine blk_drew ?_ | refine blk_alloc ?_ _)); refine blk_far ?_ NB345_358.out _; (with_reducible repeat (first | refine blk_drewN ?_ _ | refine blk_drew ?_ | refine blk_alloc ?_ _)); refine blk_far ?_ NB345_358.out _; (with_reducible repeat (first | refine blk_drewN ?_ _ | refine blk_drew ?_ | refine blk_alloc ?_ _)); exact BK345.out) hb); have n8_ := Aside0.mk (blk_below (g := gb358) (o := .cells #[.bool t354, .slice Ao118 t355.length co118] 31 (0, 0)) (by (with_reducible repeat (first | refine blk_drewN ?_ _ | refine blk_drew ?_ | refine blk_alloc ?_ _)); refine blk_put (cs := #[.bool t354, .slice none 0 0]) ?_ 1 _ rfl; (with_reducible repeat (first | refine blk_drewN ?_ _ | refine blk_drew ?_ | refine blk_alloc ?_ _)); refine blk_put (cs := #[.bool false, .slice none 0 0]) ?_ 0 _ rfl; (with_reducible repeat (first | refine blk_drewN ?_ _ | refine blk_drew ?_ | refine blk_alloc ?_ _)); exact BK358.out) hb); have n9_ := Aside0.mk (below_step (q3_ HB.out GE331.out GE345.out GE358.out) hb); clear HO336; clear HO340; clear HO344; clear HO349; clear HO353; clear HO357; clear BK331; clear BK345; clear BK358; clear HB; have HO336 := n0_; have HO340 := n1_; have HO344 := n2_; have HO349 := n3_; have HO353 := n4_; have HO357 := n5_; have BK331 := n6_; have BK345 := n7_; have BK358 := n8_; have HB := n9_; clear n0_ n1_ n2_ n3_ n4_ n5_ n6_ n7_ n8_ n9_; (try clear hb); (try clear hb2); (try clear hk); (try clear hi); have hcz125_0 : w124.cell? ⟨gb331, 0, none⟩ = some (.int .i64 t328) := (blk_cell BK331.out 0).trans rfl; have hcz125_1 : w124.cell? ⟨gb331, 1, none⟩ = some (.int .i64 t329) := (blk_cell BK331.out 1).trans rfl; have hfz125_0 := blk_frozen BK331.out 0; have hfz125_1 := blk_frozen BK331.out 1) | ((with_reducible refine gate_callee (f := 26) rfl ?_); refine goesL_ (some 66) rfl rfl Tryd.func26 (by kernel_rfl) rfl #[.agg #[.int .i64 t328, .int .i64 t329]] rfl qe_ ?_; (with_reducible refine (num_Valid.calls kj6 t328 t329 true _ A25.out).mono ?_); rintro e w126 ⟨rfl, hb⟩; refine ⟨_, rfl, ?_⟩; have n0_ := Aside0.mk (Kd.R_below (qr_ HO336.out) hb); have n1_ := Aside0.mk (Kd.R_below (qr_ HO340.out) hb); have n2_ := Aside0.mk (Kd.R_below (qr_ HO344.out) hb); have n3_ := Aside0.mk (Kd.R_below (qr_ HO349.out) hb); have n4_ := Aside0.mk (Kd.R_below (qr_ HO353.out) hb); have n5_ := Aside0.mk (Kd.R_below (qr_ HO357.out) hb); have n6_ := Aside0.mk (blk_below (g := gb331) (o := .cells #[.int .i64 t328, .int .i64 t329] 23 (0, 0)) (qb_ BK331.out) hb); have n7_ := Aside0.mk (blk_below (g := gb345) (o := .cells #[.bool t341, .slice Ao107 t342.length co107] 31 (0, 0)) (qb_ BK345.out) hb); have n8_ := Aside0.mk (blk_below (g := gb358) (o := .cells #[.bool t354, .slice Ao118 t355.length co118] 31 (0, 0)) (qb_ BK358.out) hb); have n9_ := Aside0.mk (below_step (q3_ HB.out GE331.out GE345.out GE358.out) hb); clear HO336; clear HO340; clear HO344; clear HO349; clear HO353; clear HO357; clear BK331; clear BK345; clear BK358; clear HB; have HO336 := n0_; have HO340 := n1_; have HO344 := n2_; have HO349 := n3_; have HO353 := n4_; have HO357 := n5_; have BK331 := n6_; have BK345 := n7_; have BK358 := n8_; have HB := n9_; clear n0_ n1_ n2_ n3_ n4_ n5_ n6_ n7_ n8_ n9_; (try clear hb); (try clear hb2); (try clear hk); (try clear hi); have hcz127_0 : w126.cell? ⟨gb331, 0, none⟩ = some (.int .i64 t328) := (blk_cell BK331.out 0).trans rfl; have hcz127_1 : w126.cell? ⟨gb331, 1, none⟩ = some (.int .i64 t329) := (blk_cell BK331.out 1).trans rfl; have hfz127_0 := blk_frozen BK331.out 0; have hfz127_1 := blk_frozen BK331.out 1) | (go_at_call 21; (with_reducible refine (merinolaw01_alive.calls  t363 _ A97.out).mono ?_); rintro e w128 ⟨rfl, hb⟩; have n0_ := Aside0.mk (Kd.R_below (qr_ HO336.out) hb); have n1_ := Aside0.mk (Kd.R_below (qr_ HO340.out) hb); have n2_ := Aside0.mk (Kd.R_below (qr_ HO344.out) hb); have n3_ := Aside0.mk (Kd.R_below (qr_ HO349.out) hb); have n4_ := Aside0.mk (Kd.R_below (qr_ HO353.out) hb); have n5_ := Aside0.mk (Kd.R_below (qr_ HO357.out) hb); have n6_ := Aside0.mk (blk_below (g := gb331) (o := .cells #[.int .i64 t328, .int .i64 t329] 23 (0, 0)) (qb_ BK331.out) hb); have n7_ := Aside0.mk (blk_below (g := gb345) (o := .cells #[.bool t341, .slice Ao107 t342.length co107] 31 (0, 0)) (qb_ BK345.out) hb); have n8_ := Aside0.mk (blk_below (g := gb358) (o := .cells #[.bool t354, .slice Ao118 t355.length co118] 31 (0, 0)) (qb_ BK358.out) hb); have n9_ := Aside0.mk (below_step (q3_ HB.out GE331.out GE345.out GE358.out) hb); clear HO336; clear HO340; clear HO344; clear HO349; clear HO353; clear HO357; clear BK331; clear BK345; clear BK358; clear HB; have HO336 := n0_; have HO340 := n1_; have HO344 := n2_; have HO349 := n3_; have HO353 := n4_; have HO357 := n5_; have BK331 := n6_; have BK345 := n7_; have BK358 := n8_; have HB := n9_; clear n0_ n1_ n2_ n3_ n4_ n5_ n6_ n7_ n8_ n9_; (try clear hb); (try clear hb2); (try clear hk); (try clear hi)))
                      go_ret
                      exact ⟨by first | rfl | (simp [errW_none, errW_some] <;> rfl) | (simp [*, errW_none, errW_some] <;> rfl), (q3_ HB.out GE331.out GE345.out GE358.out)⟩
                    · rw [if_neg c96] at H
                      exact absurd H (by simp)
                  · rw [if_neg c95] at H
                    exact absurd H (by simp)
              · rw [if_neg c61] at H
                exact absurd H (by simp)
          · rw [if_neg c27] at H
            exact absurd H (by simp)
        · replace c26 := Bool.eq_false_iff.mpr c26
          subst c26
          have H1 : (none) = some r := by rw [if_neg (show ¬ (false = true) by decide)] at H; exact H
          clear H
          have H := H1
          clear H1
          exact absurd H (by simp)
end Go.Proofs.YtdjnneflpkllmaaDoor.Q
