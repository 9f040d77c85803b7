/- Part 4 of the proof of NumField. -/
import Derived.Test.YtdjnneflpkllmaaDoorMNumField3

namespace Go.Proofs.YtdjnneflpkllmaaDoor.Q
open Go.RowKit Go.Proofs.YtdjnneflpkllmaaDoorW.PrintWords Go.Proofs.YtdjnneflpkllmaaDoorW.PrintLast Go.Proofs.YtdjnneflpkllmaaDoorW.PrintMore
attribute [local go_sem] max2_int min2_int max_two min_two max_three min_three max_four min_four   -- for this text's walks alone
set_option linter.unusedVariables false
set_option linter.unusedSimpArgs false
def num_Add.j0 : Nat → Bool → Int → Int → Int → Int → Option (Int × Int × Int)
  | 0, _, _, _, _, _ => none
  | k + 1, x14, x1077000, x1077001, x1078000, x1078001 => if x14 = true then (some (0, 0, 2)) else ((num_size.f (wrap64 ((wrap64 (x1077000 * x1078001)) + (wrap64 (x1078000 * x1077001))))).bind fun t1081 => ((num_made.f k (decide ((wrap64 ((wrap64 (x1077000 * x1078001)) + (wrap64 (x1078000 * x1077001)))) < 0)) t1081 (IntKind.u64.wrap ((IntKind.u64.wrap (x1077001)) * (IntKind.u64.wrap (x1078001))))).bind fun bt1082 => (some (bt1082.1, bt1082.2.1, bt1082.2.2))))
def num_Add.f (k : Nat) (a0_0 : Int) (a0_1 : Int) (a1_0 : Int) (a1_1 : Int) : Option (Int × Int × Int) := (num_Valid.f k a0_0 a0_1).bind fun t1079 => (if t1079 = true then ((num_Valid.f k a1_0 a1_1).bind fun t1080 => (num_Add.j0 k (!t1080) a0_0 a0_1 a1_0 a1_1)) else (num_Add.j0 k true a0_0 a0_1 a1_0 a1_1))
theorem num_Add.mono_l : ∀ k, (∀ y0 y1 y2 y3 y4, LeO (num_Add.j0 k y0 y1 y2 y3 y4) (num_Add.j0 (k + 1) y0 y1 y2 y3 y4))
  | 0 => fun _ _ _ _ _ r h => by simp [num_Add.j0] at h
  | k + 1 => by
    have ih0 := num_Add.mono_l k
    · intro y0 y1 y2 y3 y4
      unfold num_Add.j0
      repeat' first
      | (with_reducible exact ih0 _ _ _ _ _)
      | (with_reducible exact num_Valid.mono _ _ _)
      | (with_reducible exact num_made.mono _ _ _ _)
      | (with_reducible exact LeO.refl _)
      | (with_reducible exact LeO.none _)
      | (with_reducible refine LeO.ite ?_ ?_)
      | (with_reducible refine LeO.bind ?_ (fun _ => ?_))
      | exact ih0 _ _ _ _ _
      | exact num_Valid.mono _ _ _
      | exact num_made.mono _ _ _ _
      | exact LeO.none _
      | refine LeO.ite ?_ ?_
      | refine LeO.bind ?_ (fun _ => ?_)
theorem num_Add.mono : ∀ a0 a1 a2 a3 k, LeO (num_Add.f k a0 a1 a2 a3) (num_Add.f (k + 1) a0 a1 a2 a3) := by
  intro a0 a1 a2 a3 k
  have ih0 := num_Add.mono_l k
  unfold num_Add.f
  repeat' first
      | (with_reducible exact ih0 _ _ _ _ _)
      | (with_reducible exact num_Valid.mono _ _ _)
      | (with_reducible exact num_made.mono _ _ _ _)
      | (with_reducible exact LeO.refl _)
      | (with_reducible exact LeO.none _)
      | (with_reducible refine LeO.ite ?_ ?_)
      | (with_reducible refine LeO.bind ?_ (fun _ => ?_))
      | exact ih0 _ _ _ _ _
      | exact num_Valid.mono _ _ _
      | exact num_made.mono _ _ _ _
      | exact LeO.none _
      | refine LeO.ite ?_ ?_
      | refine LeO.bind ?_ (fun _ => ?_)
def num_Add.T4 : Bool × List (List Nat × List Nat) := (true, [([], []), ([0], [0]), ([], []), ([2], [2]), ([], []), ([4], [4]), ([5], [5]), ([], []), ([7], [7]), ([8], [8]), ([6, 9], [6, 9]), ([1, 3, 10, 3], [1, 3, 10]), ([11], [11]), ([11], [11]), ([12, 11, 0, 1, 2, 3, 4, 5, 6, 7, 8, 9, 10, 11, 12, 13], [12]), ([13, 14, 0, 1, 2, 3, 4, 5, 6, 7, 8, 9, 10, 11, 12, 13, 14], [13])])
def num_Add.B4 : List Nat := [0, 1, 0, 4, 0, 16, 48, 0, 128, 384, 1008, 2047, 4095, 4095, 16383, 32767]
theorem num_Add.tab4 : rtab .any (opsOf Tryd.f52 4) = num_Add.T4 := by kernel_rfl
theorem num_Add.bits4 : waitsOk num_Add.T4.2 num_Add.B4 = true := by kernel_rfl
set_option maxHeartbeats 8000000 in
set_option maxRecDepth 100000 in
theorem num_Add.calls (k : Nat) (a0_0 : Int) (a0_1 : Int) (a1_0 : Int) (a1_1 : Int) (r1 : Int) (r2 : Int) (r3 : Int) (w : World) (h : num_Add.f k a0_0 a0_1 a1_0 a1_1 = some (r1, r2, r3)) :
    Calls Tryd.prog 52 #[.agg #[.int .i64 a0_0, .int .i64 a0_1], .agg #[.int .i64 a1_0, .int .i64 a1_1]] w fun e w' => e = .returned (.tuple #[.agg #[.int .i64 r1, .int .i64 r2], .int .i64 r3]) ∧ Below w.heap.size w w' := by
  have hu23 := Tryd.underlying23
  have HB := Aside0.mk (Below.refl w.heap.size w)
  have H : ((num_Valid.f k a0_0 a0_1).bind fun t1079 => (if t1079 = true then ((num_Valid.f k a1_0 a1_1).bind fun t1080 => (num_Add.j0 k (!t1080) a0_0 a0_1 a1_0 a1_1)) else (num_Add.j0 k true a0_0 a0_1 a1_0 a1_1))) = some (r1, r2, r3) := h
  clear h
  have HC3 := Aside0.mk H
  clear H
  go_enter Tryd.func52, Tryd.ntmps52
  go_upto_region 1 with (first | ((with_reducible refine gate_dst (N := 2) rfl ?_); refine qx_ 2 #[.int .i64 a0_0, .int .i64 a0_1] 23 ?hr ?_; (case hr => first | (go_simp; done) | (go_simp; rfl)); intro gb1076 hg w4 hbox hb; have n0_ := Aside0.mk (below_step (q0_ HB.out) hb); have n1_ := Aside0.mk (hbox); have n2_ := Aside0.mk (qs_ hg (q0_ HB.out) : w.heap.size ≤ gb1076); have n3_ := n2_; clear HB; have HB := n0_; have BK1076 := n1_; have GW1076 := n2_; have GE1076 := n3_; clear n0_ n1_ n2_ n3_; clear hb hbox hg) | ((with_reducible refine gate_dst (N := 3) rfl ?_); refine qx_ 3 #[.int .i64 a1_0, .int .i64 a1_1] 23 ?hr ?_; (case hr => first | (go_simp; done) | (go_simp; rfl)); intro gb1077 hg w5 hbox hb; have n0_ := Aside0.mk (qk_ BK1076.out hb); have n1_ := Aside0.mk (below_step (q1_ HB.out GE1076.out) hb); have n2_ := Aside0.mk (hbox); have n3_ := Aside0.mk (qs_ hg (q1_ HB.out GE1076.out) : w.heap.size ≤ gb1077); have n4_ := n3_; have n5_ := Aside0.mk (qn_ hg BK1076.out); have n6_ := Aside0.mk (Ne.symm (qn_ hg BK1076.out)); clear BK1076; clear HB; have BK1076 := n0_; have HB := n1_; have BK1077 := n2_; have GW1077 := n3_; have GE1077 := n4_; have NB1076_1077 := n5_; have NB1077_1076 := n6_; clear n0_ n1_ n2_ n3_ n4_ n5_ n6_; clear hb hbox hg) | ((with_reducible refine gate_dst (N := 4) rfl ?_); refine qx_ 4 #[.int .i64 0, .int .i64 0] 23 ?hr ?_; (case hr => first | (go_simp; done) | (go_simp; rfl)); intro gb1078 hg w6 hbox hb; have n0_ := Aside0.mk (qk_ BK1076.out hb); have n1_ := Aside0.mk (qk_ BK1077.out hb); have n2_ := Aside0.mk (below_step (q2_ HB.out GE1076.out GE1077.out) hb); have n3_ := Aside0.mk (hbox); have n4_ := Aside0.mk (qs_ hg (q2_ HB.out GE1076.out GE1077.out) : w.heap.size ≤ gb1078); have n5_ := n4_; have n6_ := Aside0.mk (qn_ hg BK1076.out); have n7_ := Aside0.mk (Ne.symm (qn_ hg BK1076.out)); have n8_ := Aside0.mk (qn_ hg BK1077.out); have n9_ := Aside0.mk (Ne.symm (qn_ hg BK1077.out)); clear BK1076; clear BK1077; clear HB; have BK1076 := n0_; have BK1077 := n1_; have HB := n2_; have BK1078 := n3_; have GW1078 := n4_; have GE1078 := n5_; have NB1076_1078 := n6_; have NB1078_1076 := n7_; have NB1077_1078 := n8_; have NB1078_1077 := n9_; clear n0_ n1_ n2_ n3_ n4_ n5_ n6_ n7_ n8_ n9_; clear hb hbox hg))
  (try simp only [Act.put, List.setIfInBounds_toArray, List.set_cons_zero, List.set_cons_succ])
  go_cut [14] (fun v14 wc => ∃ (kq : Nat) (x14_2 : Bool), v14 = .bool x14_2 ∧ Aside0 (num_Add.j0 kq x14_2 a0_0 a0_1 a1_0 a1_1 = some (r1, r2, r3)) ∧ Aside0 (kq ≤ k) ∧ Aside0 (wc.heap[gb1076]? = some (.cells #[.int .i64 a0_0, .int .i64 a0_1] 23 (0, 0))) ∧ Aside0 (wc.heap[gb1077]? = some (.cells #[.int .i64 a1_0, .int .i64 a1_1] 23 (0, 0))) ∧ Aside0 (wc.heap[gb1078]? = some (.cells #[.int .i64 0, .int .i64 0] 23 (0, 0))) ∧ Aside0 (Below w.heap.size w wc))
  case first =>
    have H := HC3.out
    clear HC3
    replace H := Option.bind_eq_some_iff.mp H
    obtain ⟨t1079, A70, H⟩ := H
    replace H : (if t1079 = true then ((num_Valid.f k a1_0 a1_1).bind fun t1080 => (num_Add.j0 k (!t1080) a0_0 a0_1 a1_0 a1_1)) else (num_Add.j0 k true a0_0 a0_1 a1_0 a1_1)) = some (r1, r2, r3) := H
    have A7 := Aside0.mk A70
    clear A70
    by_cases c8 : t1079 = true
    · subst c8
      have H1 : ((num_Valid.f k a1_0 a1_1).bind fun t1080 => (num_Add.j0 k (!t1080) a0_0 a0_1 a1_0 a1_1)) = some (r1, r2, r3) := by rw [if_pos rfl] at H; exact H
      clear H
      have H := H1
      clear H1
      replace H := Option.bind_eq_some_iff.mp H
      obtain ⟨t1080, A90, H⟩ := H
      replace H : (num_Add.j0 k (!t1080) a0_0 a0_1 a1_0 a1_1) = some (r1, r2, r3) := H
      have A9 := Aside0.mk A90
      clear A90
      have H' := Aside0.mk H
      clear H
      have hnb10 := NB1076_1077.out
      have hnc10 := NB1077_1076.out
      have hnb11 := NB1076_1078.out
      have hnc11 := NB1078_1076.out
      have hcz12_0 : w6.cell? ⟨gb1076, 0, none⟩ = some (.int .i64 a0_0) := (blk_cell BK1076.out 0).trans rfl
      have hcz12_1 : w6.cell? ⟨gb1076, 1, none⟩ = some (.int .i64 a0_1) := (blk_cell BK1076.out 1).trans rfl
      have hfz12_0 := blk_frozen BK1076.out 0
      have hfz12_1 := blk_frozen BK1076.out 1
      go_wp2_with (first | ((with_reducible refine gate_callee (f := 26) rfl ?_); refine goesL_ (some 8) rfl rfl Tryd.func26 (by kernel_rfl) rfl #[.agg #[.int .i64 a0_0, .int .i64 a0_1]] rfl qe_ ?_; (with_reducible refine (num_Valid.calls k a0_0 a0_1 true _ A7.out).mono ?_); rintro e w13 ⟨rfl, hb⟩; refine ⟨_, rfl, ?_⟩; have n0_ := Aside0.mk (qk_ BK1076.out hb); have n1_ := Aside0.mk (qk_ BK1077.out hb); have n2_ := Aside0.mk (qk_ BK1078.out hb); have n3_ := Aside0.mk (below_step (q3_ HB.out GE1076.out GE1077.out GE1078.out) hb); clear BK1076; clear BK1077; clear BK1078; clear HB; have BK1076 := n0_; have BK1077 := n1_; have BK1078 := n2_; have HB := n3_; clear n0_ n1_ n2_ n3_; (try clear hb); (try clear hb2); (try clear hk); (try clear hi); have hnb14 := NB1077_1078.out; have hnc14 := NB1078_1077.out; have hcz15_0 : w13.cell? ⟨gb1077, 0, none⟩ = some (.int .i64 a1_0) := (blk_cell BK1077.out 0).trans rfl; have hcz15_1 : w13.cell? ⟨gb1077, 1, none⟩ = some (.int .i64 a1_1) := (blk_cell BK1077.out 1).trans rfl; have hfz15_0 := blk_frozen BK1077.out 0; have hfz15_1 := blk_frozen BK1077.out 1) | (go_at_call 26; (with_reducible refine (num_Valid.calls k a1_0 a1_1 t1080 _ A9.out).mono ?_); rintro e w16 ⟨rfl, hb⟩; have n0_ := Aside0.mk (qk_ BK1076.out hb); have n1_ := Aside0.mk (qk_ BK1077.out hb); have n2_ := Aside0.mk (qk_ BK1078.out hb); have n3_ := Aside0.mk (below_step (q3_ HB.out GE1076.out GE1077.out GE1078.out) hb); clear BK1076; clear BK1077; clear BK1078; clear HB; have BK1076 := n0_; have BK1077 := n1_; have BK1078 := n2_; have HB := n3_; clear n0_ n1_ n2_ n3_; (try clear hb); (try clear hb2); (try clear hk); (try clear hi)))
      go_meet
      case rel => exact ⟨_, (!t1080), (by first | rfl | (simp; done) | (simp [*]; done)), H', ⟨by first | omega | exact Nat.le_refl _⟩, ⟨by (with_reducible repeat (first | refine blk_drewN ?_ _ | refine blk_drew ?_ | refine blk_alloc ?_ _)); exact BK1076.out⟩, ⟨by (with_reducible repeat (first | refine blk_drewN ?_ _ | refine blk_drew ?_ | refine blk_alloc ?_ _)); exact BK1077.out⟩, ⟨by (with_reducible repeat (first | refine blk_drewN ?_ _ | refine blk_drew ?_ | refine blk_alloc ?_ _)); exact BK1078.out⟩, ⟨(q3_ HB.out GE1076.out GE1077.out GE1078.out)⟩⟩
    · replace c8 := Bool.eq_false_iff.mpr c8
      subst c8
      have H1 : (num_Add.j0 k true a0_0 a0_1 a1_0 a1_1) = some (r1, r2, r3) := by rw [if_neg (show ¬ (false = true) by decide)] at H; exact H
      clear H
      have H := H1
      clear H1
      have H' := Aside0.mk H
      clear H
      have hnb17 := NB1076_1077.out
      have hnc17 := NB1077_1076.out
      have hnb18 := NB1076_1078.out
      have hnc18 := NB1078_1076.out
      have hcz19_0 : w6.cell? ⟨gb1076, 0, none⟩ = some (.int .i64 a0_0) := (blk_cell BK1076.out 0).trans rfl
      have hcz19_1 : w6.cell? ⟨gb1076, 1, none⟩ = some (.int .i64 a0_1) := (blk_cell BK1076.out 1).trans rfl
      have hfz19_0 := blk_frozen BK1076.out 0
      have hfz19_1 := blk_frozen BK1076.out 1
      go_wp2_with (first | ((with_reducible refine gate_callee (f := 26) rfl ?_); refine goesL_ (some 8) rfl rfl Tryd.func26 (by kernel_rfl) rfl #[.agg #[.int .i64 a0_0, .int .i64 a0_1]] rfl qe_ ?_; (with_reducible refine (num_Valid.calls k a0_0 a0_1 false _ A7.out).mono ?_); rintro e w20 ⟨rfl, hb⟩; refine ⟨_, rfl, ?_⟩; have n0_ := Aside0.mk (qk_ BK1076.out hb); have n1_ := Aside0.mk (qk_ BK1077.out hb); have n2_ := Aside0.mk (qk_ BK1078.out hb); have n3_ := Aside0.mk (below_step (q3_ HB.out GE1076.out GE1077.out GE1078.out) hb); clear BK1076; clear BK1077; clear BK1078; clear HB; have BK1076 := n0_; have BK1077 := n1_; have BK1078 := n2_; have HB := n3_; clear n0_ n1_ n2_ n3_; (try clear hb); (try clear hb2); (try clear hk); (try clear hi)))
      go_meet
      case rel => exact ⟨_, (true), (by first | rfl | (simp; done) | (simp [*]; done)), H', ⟨by first | omega | exact Nat.le_refl _⟩, ⟨by (with_reducible repeat (first | refine blk_drewN ?_ _ | refine blk_drew ?_ | refine blk_alloc ?_ _)); exact BK1076.out⟩, ⟨by (with_reducible repeat (first | refine blk_drewN ?_ _ | refine blk_drew ?_ | refine blk_alloc ?_ _)); exact BK1077.out⟩, ⟨by (with_reducible repeat (first | refine blk_drewN ?_ _ | refine blk_drew ?_ | refine blk_alloc ?_ _)); exact BK1078.out⟩, ⟨(q3_ HB.out GE1076.out GE1077.out GE1078.out)⟩⟩
  case rest =>
    clear HC3
    try clear c1
    try clear c2
    try clear p2
    try clear c5
    try clear c8
    try clear c10
    try clear c11
    try clear c14
    try clear c17
    try clear c18
    try clear hcz12_0
    try clear hcz12_1
    try clear hcz15_0
    try clear hcz15_1
    try clear hcz19_0
    try clear hcz19_1
    try clear hfz12_0
    try clear hfz12_1
    try clear hfz15_0
    try clear hfz15_1
    try clear hfz19_0
    try clear hfz19_1
    obtain ⟨kq, x14_2, rfl, HA, HJ2, BK1076, BK1077, BK1078, HB⟩ := hcut
    cases kq with
    | zero => exact absurd HA.out (by simp [num_Add.j0])
    | succ kj2 =>
      have H := HA.out
      clear HA
      simp only [num_Add.j0] at H
      by_cases c21 : x14_2 = true
      · subst c21
        have H1 : (some (0, 0, 2)) = some (r1, r2, r3) := by rw [if_pos rfl] at H; exact H
        clear H
        have H := H1
        clear H1
        simp only [Option.some.injEq, Prod.mk.injEq] at H
        obtain ⟨rfl, rfl, rfl⟩ := H
        have hnb22 := NB1078_1076.out
        have hnc22 := NB1076_1078.out
        have hnb23 := NB1078_1077.out
        have hnc23 := NB1077_1078.out
        have hcz24_0 : wc.cell? ⟨gb1078, 0, none⟩ = some (.int .i64 0) := (blk_cell BK1078.out 0).trans rfl
        have hcz24_1 : wc.cell? ⟨gb1078, 1, none⟩ = some (.int .i64 0) := (blk_cell BK1078.out 1).trans rfl
        have hfz24_0 := blk_frozen BK1078.out 0
        have hfz24_1 := blk_frozen BK1078.out 1
        go_wp2
        refine bodyPost_ret (results_ct rfl _ _ gb1078 23 #[.int .i64 0, .int .i64 0] (0, 0) _ rfl (by (with_reducible repeat (first | refine blk_drewN ?_ _ | refine blk_drew ?_ | refine blk_alloc ?_ _)); refine blk_put (cs := #[.int .i64 0, .int .i64 0]) ?_ 1 _ rfl; (with_reducible repeat (first | refine blk_drewN ?_ _ | refine blk_drew ?_ | refine blk_alloc ?_ _)); refine blk_put (cs := #[.int .i64 0, .int .i64 0]) ?_ 0 _ rfl; (with_reducible repeat (first | refine blk_drewN ?_ _ | refine blk_drew ?_ | refine blk_alloc ?_ _)); exact BK1078.out) Tryd.underlying23 rfl (by kernel_rfl)) rfl ?_
        exact ⟨by first | rfl | (simp [errW_none, errW_some] <;> rfl) | (simp [*, errW_none, errW_some] <;> rfl), (q3_ HB.out GE1076.out GE1077.out GE1078.out)⟩
      · replace c21 := Bool.eq_false_iff.mpr c21
        subst c21
        have H1 : ((num_size.f (wrap64 ((wrap64 (a0_0 * a1_1)) + (wrap64 (a1_0 * a0_1))))).bind fun t1081 => ((num_made.f kj2 (decide ((wrap64 ((wrap64 (a0_0 * a1_1)) + (wrap64 (a1_0 * a0_1)))) < 0)) t1081 (IntKind.u64.wrap ((IntKind.u64.wrap (a0_1)) * (IntKind.u64.wrap (a1_1))))).bind fun bt1082 => (some (bt1082.1, bt1082.2.1, bt1082.2.2)))) = some (r1, r2, r3) := by rw [if_neg (show ¬ (false = true) by decide)] at H; exact H
        clear H
        have H := H1
        clear H1
        replace H := Option.bind_eq_some_iff.mp H
        obtain ⟨t1081, A250, H⟩ := H
        replace H : ((num_made.f kj2 (decide ((wrap64 ((wrap64 (a0_0 * a1_1)) + (wrap64 (a1_0 * a0_1)))) < 0)) t1081 (IntKind.u64.wrap ((IntKind.u64.wrap (a0_1)) * (IntKind.u64.wrap (a1_1))))).bind fun bt1082 => (some (bt1082.1, bt1082.2.1, bt1082.2.2))) = some (r1, r2, r3) := H
        have A25 := Aside0.mk A250
        clear A250
        replace H := Option.bind_eq_some_iff.mp H
        obtain ⟨⟨t1082, t1083, t1084⟩, A260, H⟩ := H
        replace H : (some (t1082, t1083, t1084)) = some (r1, r2, r3) := H
        have A26 := Aside0.mk A260
        clear A260
        simp only [Option.some.injEq, Prod.mk.injEq] at H
        obtain ⟨rfl, rfl, rfl⟩ := H
        have hnb27 := NB1076_1077.out
        have hnc27 := NB1077_1076.out
        have hnb28 := NB1076_1078.out
        have hnc28 := NB1078_1076.out
        have hcz29_0 : wc.cell? ⟨gb1076, 0, none⟩ = some (.int .i64 a0_0) := (blk_cell BK1076.out 0).trans rfl
        have hcz29_1 : wc.cell? ⟨gb1076, 1, none⟩ = some (.int .i64 a0_1) := (blk_cell BK1076.out 1).trans rfl
        have hfz29_0 := blk_frozen BK1076.out 0
        have hfz29_1 := blk_frozen BK1076.out 1
        have hnb30 := NB1077_1078.out
        have hnc30 := NB1078_1077.out
        have hcz31_0 : wc.cell? ⟨gb1077, 0, none⟩ = some (.int .i64 a1_0) := (blk_cell BK1077.out 0).trans rfl
        have hcz31_1 : wc.cell? ⟨gb1077, 1, none⟩ = some (.int .i64 a1_1) := (blk_cell BK1077.out 1).trans rfl
        have hfz31_0 := blk_frozen BK1077.out 0
        have hfz31_1 := blk_frozen BK1077.out 1
        try go_wp2
        have n0_ := Aside0.mk (blk_drew BK1076.out)
        have n1_ := Aside0.mk (blk_drew BK1077.out)
        have n2_ := Aside0.mk (blk_drew BK1078.out)
        have n3_ := Aside0.mk (below_drew1 HB.out)
        clear BK1076
        clear BK1077
        clear BK1078
        clear HB
        have BK1076 := n0_
        have BK1077 := n1_
        have BK1078 := n2_
        have HB := n3_
        clear n0_ n1_ n2_ n3_
        refine start_ (n := 16) (S := fun w' => w'.cell? ⟨gb1076, 0, none⟩ = some (.int .i64 a0_0) ∧ w'.cell? ⟨gb1076, 1, none⟩ = some (.int .i64 a0_1) ∧ w'.cell? ⟨gb1077, 0, none⟩ = some (.int .i64 a1_0) ∧ w'.cell? ⟨gb1077, 1, none⟩ = some (.int .i64 a1_1)) (ds := []) #[false, false, false, false, false, false, false, false, false, false, false, false, false, false, false, false] (by kernel_rfl) rfl rfl ⟨(blk_cell BK1076.out 0).trans rfl, (blk_cell BK1076.out 1).trans rfl, (blk_cell BK1077.out 0).trans rfl, (blk_cell BK1077.out 1).trans rfl⟩ (fun hHeld => ?_); refine with_tabW num_Add.tab4 num_Add.bits4 (fun HT_ HW_ => ?_)
        generalize wc.drew = w32 at BK1076 BK1077 BK1078 HB hHeld ⊢
        refine pure_ (i := 0) (N := some 27) (v := ?_) (a' := ?_) #[true, false, false, false, false, false, false, false, false, false, false, false, false, false, false, false] rfl rfl (any_of HT_.out (by kernel_rfl)) (fun _ _ _ h => h) (Or.inl ⟨by rfl, ?_⟩) ?_ ?_
        rotate_left
        · intro w'
          go_simp
          with_reducible rfl
        rotate_left
        · simp only [Act.put, List.setIfInBounds_toArray, List.set_cons_zero, List.set_cons_succ, i64_w, i32_w]
          rfl
        refine pure_ (i := 1) (N := some 28) (v := ?_) (a' := ?_) #[true, true, false, false, false, false, false, false, false, false, false, false, false, false, false, false] rfl rfl (any_of HT_.out (by kernel_rfl)) (fun _ _ _ h => h) (Or.inl ⟨by rfl, ?_⟩) ?_ ?_
        rotate_left
        · intro w'
          go_simp
          with_reducible rfl
        rotate_left
        · simp only [Act.put, List.setIfInBounds_toArray, List.set_cons_zero, List.set_cons_succ, i64_w, i32_w]
          rfl
        refine pure_ (i := 2) (N := some 29) (v := ?_) (a' := ?_) #[true, true, true, false, false, false, false, false, false, false, false, false, false, false, false, false] rfl rfl (any_of HT_.out (by kernel_rfl)) (fun _ _ _ h => h) (Or.inl ⟨by rfl, ?_⟩) ?_ ?_
        rotate_left
        · intro w'
          go_simp
          with_reducible rfl
        rotate_left
        · simp only [Act.put, List.setIfInBounds_toArray, List.set_cons_zero, List.set_cons_succ, i64_w, i32_w]
          rfl
        refine pure_ (i := 4) (N := some 31) (v := ?_) (a' := ?_) #[true, true, true, false, true, false, false, false, false, false, false, false, false, false, false, false] rfl rfl (any_of HT_.out (by kernel_rfl)) (fun _ _ _ h => h) (Or.inl ⟨by rfl, ?_⟩) ?_ ?_
        rotate_left
        · intro w'
          go_simp
          with_reducible rfl
        rotate_left
        · simp only [Act.put, List.setIfInBounds_toArray, List.set_cons_zero, List.set_cons_succ, i64_w, i32_w]
          rfl
        refine pure_ (i := 7) (N := some 34) (v := ?_) (a' := ?_) #[true, true, true, false, true, false, false, true, false, false, false, false, false, false, false, false] rfl rfl (any_of HT_.out (by kernel_rfl)) (fun _ _ _ h => h) (Or.inl ⟨by rfl, ?_⟩) ?_ ?_
        rotate_left
        · intro w'
          go_simp
          with_reducible rfl
        rotate_left
        · simp only [Act.put, List.setIfInBounds_toArray, List.set_cons_zero, List.set_cons_succ, i64_w, i32_w]
          rfl
        refine take_ (i := 5) (N := some 32) (v := ?_) (a' := ?_) #[true, true, true, false, true, true, false, true, false, false, false, false, false, false, false, false] rfl rfl (take_ofW HT_.out HW_.out (by kernel_rfl)) (fun _ _ _ h => h) (Or.inl ⟨by rfl, ?_⟩) hHeld ?_ ?_
        rotate_left
        · rintro w' ⟨s0, s1, s2, s3⟩
          go_simp
          with_reducible rfl
        rotate_left
        · simp only [Act.put, List.setIfInBounds_toArray, List.set_cons_zero, List.set_cons_succ, i64_w, i32_w]
          rfl
        refine pure_ (i := 6) (N := some 33) (v := ?_) (a' := ?_) #[true, true, true, false, true, true, true, true, false, false, false, false, false, false, false, false] rfl rfl (any_of HT_.out (by kernel_rfl)) (fun _ _ _ h => h) (Or.inl ⟨by rfl, ?_⟩) ?_ ?_
        rotate_left
        · intro w'
          go_simp
          with_reducible rfl
        rotate_left
        · simp only [Act.put, List.setIfInBounds_toArray, List.set_cons_zero, List.set_cons_succ, i64_w, i32_w]
          rfl
        refine take_ (i := 8) (N := some 35) (v := ?_) (a' := ?_) #[true, true, true, false, true, true, true, true, true, false, false, false, false, false, false, false] rfl rfl (take_ofW HT_.out HW_.out (by kernel_rfl)) (fun _ _ _ h => h) (Or.inl ⟨by rfl, ?_⟩) hHeld ?_ ?_
        rotate_left
        · rintro w' ⟨s0, s1, s2, s3⟩
          go_simp
          with_reducible rfl
        rotate_left
        · simp only [Act.put, List.setIfInBounds_toArray, List.set_cons_zero, List.set_cons_succ, i64_w, i32_w]
          rfl
        refine pure_ (i := 9) (N := some 36) (v := ?_) (a' := ?_) #[true, true, true, false, true, true, true, true, true, true, false, false, false, false, false, false] rfl rfl (any_of HT_.out (by kernel_rfl)) (fun _ _ _ h => h) (Or.inl ⟨by rfl, ?_⟩) ?_ ?_
        rotate_left
        · intro w'
          go_simp
          with_reducible rfl
        rotate_left
        · simp only [Act.put, List.setIfInBounds_toArray, List.set_cons_zero, List.set_cons_succ, i64_w, i32_w]
          rfl
        refine pure_ (i := 10) (N := some 37) (v := ?_) (a' := ?_) #[true, true, true, false, true, true, true, true, true, true, true, false, false, false, false, false] rfl rfl (any_of HT_.out (by kernel_rfl)) (fun _ _ _ h => h) (Or.inl ⟨by rfl, ?_⟩) ?_ ?_
        rotate_left
        · intro w'
          go_simp
          with_reducible rfl
        rotate_left
        · simp only [Act.put, List.setIfInBounds_toArray, List.set_cons_zero, List.set_cons_succ, i64_w, i32_w]
          rfl
        refine one_ (i := 3) (N := some 30) #[true, true, true, true, true, true, true, true, true, true, true, false, false, false, false, false] rfl rfl (one_of HT_.out (by kernel_rfl)) (by decide) (fun K hK => ?_)
        refine goes_ Tryd.func78 (by kernel_rfl) rfl #[.int .i64 (wrap64 ((wrap64 (a0_0 * a1_1)) + (wrap64 (a1_0 * a0_1))))] (by rfl) rfl rfl qe_ ?_
        with_reducible refine (num_size.calls (wrap64 ((wrap64 (a0_0 * a1_1)) + (wrap64 (a1_0 * a0_1)))) t1081 _ A25.out).mono ?_
        rintro e w' ⟨rfl, ⟨nd, rfl⟩⟩
        refine ⟨_, rfl, ?_⟩
        refine hK.out _ _ ⟨(blk_cell BK1076.out 0).trans rfl, (blk_cell BK1076.out 1).trans rfl, (blk_cell BK1077.out 0).trans rfl, (blk_cell BK1077.out 1).trans rfl⟩ (fun hHeld => ?_)
        clear hK K
        refine norm_ (a' := ?_) ?_ ?_
        rotate_left
        · show Act.put _ (some 30) _ = _
          simp only [Act.put, List.setIfInBounds_toArray, List.set_cons_zero, List.set_cons_succ, i64_w, i32_w]
          rfl
        refine one_ (i := 11) (N := some 38) #[true, true, true, true, true, true, true, true, true, true, true, true, false, false, false, false] rfl rfl (one_of HT_.out (by kernel_rfl)) (by decide) (fun K hK => ?_)
        refine goes_ Tryd.func79 (by kernel_rfl) rfl #[.bool (decide ((wrap64 ((wrap64 (a0_0 * a1_1)) + (wrap64 (a1_0 * a0_1)))) < 0)), .int .u64 t1081, .int .u64 (IntKind.u64.wrap ((IntKind.u64.wrap (a0_1)) * (IntKind.u64.wrap (a1_1))))] (by rfl) rfl rfl qe_ ?_
        with_reducible refine (num_made.calls kj2 (decide ((wrap64 ((wrap64 (a0_0 * a1_1)) + (wrap64 (a1_0 * a0_1)))) < 0)) t1081 (IntKind.u64.wrap ((IntKind.u64.wrap (a0_1)) * (IntKind.u64.wrap (a1_1)))) t1082 t1083 t1084 _ A26.out).mono ?_
        rintro e w33 ⟨rfl, hb⟩
        refine ⟨_, rfl, ?_⟩
        have n0_ := Aside0.mk (qk_ BK1076.out hb)
        have n1_ := Aside0.mk (qk_ BK1077.out hb)
        have n2_ := Aside0.mk (qk_ BK1078.out hb)
        have n3_ := Aside0.mk (below_step (q3_ HB.out GE1076.out GE1077.out GE1078.out) hb)
        clear BK1076
        clear BK1077
        clear BK1078
        clear HB
        have BK1076 := n0_
        have BK1077 := n1_
        have BK1078 := n2_
        have HB := n3_
        clear n0_ n1_ n2_ n3_
        (try clear hb)
        (try clear hb2)
        (try clear hk)
        (try clear hi)
        refine hK.out _ _ ⟨(blk_cell BK1076.out 0).trans rfl, (blk_cell BK1076.out 1).trans rfl, (blk_cell BK1077.out 0).trans rfl, (blk_cell BK1077.out 1).trans rfl⟩ (fun hHeld => ?_)
        clear hK K
        refine norm_ (a' := ?_) ?_ ?_
        rotate_left
        · show Act.put _ (some 38) _ = _
          simp only [Act.put, List.setIfInBounds_toArray, List.set_cons_zero, List.set_cons_succ, i64_w, i32_w]
          rfl
        refine pure_ (i := 12) (N := some 39) (v := ?_) (a' := ?_) #[true, true, true, true, true, true, true, true, true, true, true, true, true, false, false, false] rfl rfl (any_of HT_.out (by kernel_rfl)) (fun _ _ _ h => h) (Or.inl ⟨by rfl, ?_⟩) ?_ ?_
        rotate_left
        · intro w'
          go_simp
          with_reducible rfl
        rotate_left
        · simp only [Act.put, List.setIfInBounds_toArray, List.set_cons_zero, List.set_cons_succ, i64_w, i32_w]
          rfl
        refine pure_ (i := 13) (N := some 40) (v := ?_) (a' := ?_) #[true, true, true, true, true, true, true, true, true, true, true, true, true, true, false, false] rfl rfl (any_of HT_.out (by kernel_rfl)) (fun _ _ _ h => h) (Or.inl ⟨by rfl, ?_⟩) ?_ ?_
        rotate_left
        · intro w'
          go_simp
          with_reducible rfl
        rotate_left
        · simp only [Act.put, List.setIfInBounds_toArray, List.set_cons_zero, List.set_cons_succ, i64_w, i32_w]
          rfl
        refine one_ (i := 14) (N := none) #[true, true, true, true, true, true, true, true, true, true, true, true, true, true, true, false] rfl rfl (one_of HT_.out (by kernel_rfl)) (by decide) (fun K hK => ?_)
        have hs34 : w33.cell? ⟨gb1078, 0, none⟩ = some (.int .i64 0) := (blk_cell BK1078.out 0).trans rfl
        have hfs34 := blk_frozen BK1078.out 0
        have hns34_0 := NB1076_1078.out
        have hns34_1 := NB1077_1078.out
        have hms34_0 := NB1078_1076.out
        have hms34_1 := NB1078_1077.out
        have hs35 : w33.cell? ⟨gb1078, 1, none⟩ = some (.int .i64 0) := (blk_cell BK1078.out 1).trans rfl
        have hfs35 := blk_frozen BK1078.out 1
        have hns35_0 := NB1076_1078.out
        have hns35_1 := NB1077_1078.out
        have hms35_0 := NB1078_1076.out
        have hms35_1 := NB1078_1077.out
        refine skip_ (w1 := ?_) (by rfl) rfl ?_ ?_
        rotate_left
        · go_simp
          rfl
        refine hK.out _ _ ⟨((cell_far (p := ⟨gb1078, _, none⟩) NB1076_1078.out _).trans (((cell_far (p := ⟨gb1078, _, none⟩) NB1076_1078.out _).trans (hHeld.1)))), ((cell_far (p := ⟨gb1078, _, none⟩) NB1076_1078.out _).trans (((cell_far (p := ⟨gb1078, _, none⟩) NB1076_1078.out _).trans (hHeld.2.1)))), ((cell_far (p := ⟨gb1078, _, none⟩) NB1077_1078.out _).trans (((cell_far (p := ⟨gb1078, _, none⟩) NB1077_1078.out _).trans (hHeld.2.2.1)))), ((cell_far (p := ⟨gb1078, _, none⟩) NB1077_1078.out _).trans (((cell_far (p := ⟨gb1078, _, none⟩) NB1077_1078.out _).trans (hHeld.2.2.2))))⟩ (fun hHeld => ?_)
        clear hK K
        refine pure_ (i := 15) (N := some 5) (v := ?_) (a' := ?_) #[true, true, true, true, true, true, true, true, true, true, true, true, true, true, true, true] rfl rfl (any_of HT_.out (by kernel_rfl)) (fun _ _ _ h => h) (Or.inl ⟨by rfl, ?_⟩) ?_ ?_
        rotate_left
        · intro w'
          go_simp
          with_reducible rfl
        rotate_left
        · simp only [Act.put, List.setIfInBounds_toArray, List.set_cons_zero, List.set_cons_succ, i64_w, i32_w]
          rfl
        refine done_ (done_of HT_.out (by kernel_rfl)) ?_
        try go_wp2
        refine bodyPost_ret (results_ct rfl _ _ gb1078 23 #[.int .i64 t1082, .int .i64 t1083] (0, 0) _ rfl (by (with_reducible repeat (first | refine blk_drewN ?_ _ | refine blk_drew ?_ | refine blk_alloc ?_ _)); refine blk_put (cs := #[.int .i64 t1082, .int .i64 0]) ?_ 1 _ rfl; (with_reducible repeat (first | refine blk_drewN ?_ _ | refine blk_drew ?_ | refine blk_alloc ?_ _)); refine blk_put (cs := #[.int .i64 0, .int .i64 0]) ?_ 0 _ rfl; (with_reducible repeat (first | refine blk_drewN ?_ _ | refine blk_drew ?_ | refine blk_alloc ?_ _)); exact BK1078.out) Tryd.underlying23 rfl (by kernel_rfl)) rfl ?_
        exact ⟨by first | rfl | (simp [errW_none, errW_some] <;> rfl) | (simp [*, errW_none, errW_some] <;> rfl), (q3_ HB.out GE1076.out GE1077.out GE1078.out)⟩
def num_Sub.f (k : Nat) (a0_0 : Int) (a0_1 : Int) (a1_0 : Int) (a1_1 : Int) : Option (Int × Int × Int) := (num_Neg.f k a1_0 a1_1).bind fun bt1088 => (if bt1088.2.2 = 0 then ((num_Add.f k a0_0 a0_1 bt1088.1 bt1088.2.1).bind fun bt1092 => (some (bt1092.1, bt1092.2.1, bt1092.2.2))) else (some (0, 0, bt1088.2.2)))
theorem num_Sub.mono : ∀ a0 a1 a2 a3 k, LeO (num_Sub.f k a0 a1 a2 a3) (num_Sub.f (k + 1) a0 a1 a2 a3) := by
  intro a0 a1 a2 a3 k
  unfold num_Sub.f
  repeat' first
      | (with_reducible exact num_Add.mono _ _ _ _ _)
      | (with_reducible exact num_Neg.mono _ _ _)
      | (with_reducible exact LeO.refl _)
      | (with_reducible exact LeO.none _)
      | (with_reducible refine LeO.ite ?_ ?_)
      | (with_reducible refine LeO.bind ?_ (fun _ => ?_))
      | exact num_Add.mono _ _ _ _ _
      | exact num_Neg.mono _ _ _
      | exact LeO.none _
      | refine LeO.ite ?_ ?_
      | refine LeO.bind ?_ (fun _ => ?_)
set_option maxHeartbeats 8000000 in
set_option maxRecDepth 100000 in
theorem num_Sub.calls (k : Nat) (a0_0 : Int) (a0_1 : Int) (a1_0 : Int) (a1_1 : Int) (r1 : Int) (r2 : Int) (r3 : Int) (w : World) (h : num_Sub.f k a0_0 a0_1 a1_0 a1_1 = some (r1, r2, r3)) :
    Calls Tryd.prog 53 #[.agg #[.int .i64 a0_0, .int .i64 a0_1], .agg #[.int .i64 a1_0, .int .i64 a1_1]] w fun e w' => e = .returned (.tuple #[.agg #[.int .i64 r1, .int .i64 r2], .int .i64 r3]) ∧ Below w.heap.size w w' := by
  have hu23 := Tryd.underlying23
  have HB := Aside0.mk (Below.refl w.heap.size w)
  have H : ((num_Neg.f k a1_0 a1_1).bind fun bt1088 => (if bt1088.2.2 = 0 then ((num_Add.f k a0_0 a0_1 bt1088.1 bt1088.2.1).bind fun bt1092 => (some (bt1092.1, bt1092.2.1, bt1092.2.2))) else (some (0, 0, bt1088.2.2)))) = some (r1, r2, r3) := h
  clear h
  replace H := Option.bind_eq_some_iff.mp H
  obtain ⟨⟨t1088, t1089, t1090⟩, A30, H⟩ := H
  replace H : (if t1090 = 0 then ((num_Add.f k a0_0 a0_1 t1088 t1089).bind fun bt1092 => (some (bt1092.1, bt1092.2.1, bt1092.2.2))) else (some (0, 0, t1090))) = some (r1, r2, r3) := H
  have A3 := Aside0.mk A30
  clear A30
  by_cases c4 : t1090 = 0
  · rw [if_pos c4] at H
    have c4b0 : (t1090 == 0) = true := beq_iff_eq.mpr c4
    have c4b1 : (t1090 != 0) = false := bne_eq_false_iff_eq.mpr c4
    clear c4
    replace H := Option.bind_eq_some_iff.mp H
    obtain ⟨⟨t1092, t1093, t1094⟩, A50, H⟩ := H
    replace H : (some (t1092, t1093, t1094)) = some (r1, r2, r3) := H
    have A5 := Aside0.mk A50
    clear A50
    simp only [Option.some.injEq, Prod.mk.injEq] at H
    obtain ⟨rfl, rfl, rfl⟩ := H
    go_enter Tryd.func53, Tryd.ntmps53
    go_wp2_with (first | ((with_reducible refine gate_dst (N := 2) rfl ?_); refine qx_ 2 #[.int .i64 a0_0, .int .i64 a0_1] 23 ?hr ?_; (case hr => first | (go_simp; done) | (go_simp; rfl)); intro gb1085 hg w6 hbox hb; have n0_ := Aside0.mk (below_step (q0_ HB.out) hb); have n1_ := Aside0.mk (hbox); have n2_ := Aside0.mk (qs_ hg (q0_ HB.out) : w.heap.size ≤ gb1085); have n3_ := n2_; clear HB; have HB := n0_; have BK1085 := n1_; have GW1085 := n2_; have GE1085 := n3_; clear n0_ n1_ n2_ n3_; clear hb hbox hg) | ((with_reducible refine gate_dst (N := 3) rfl ?_); refine qx_ 3 #[.int .i64 a1_0, .int .i64 a1_1] 23 ?hr ?_; (case hr => first | (go_simp; done) | (go_simp; rfl)); intro gb1086 hg w7 hbox hb; have n0_ := Aside0.mk (qk_ BK1085.out hb); have n1_ := Aside0.mk (below_step (q1_ HB.out GE1085.out) hb); have n2_ := Aside0.mk (hbox); have n3_ := Aside0.mk (qs_ hg (q1_ HB.out GE1085.out) : w.heap.size ≤ gb1086); have n4_ := n3_; have n5_ := Aside0.mk (qn_ hg BK1085.out); have n6_ := Aside0.mk (Ne.symm (qn_ hg BK1085.out)); clear BK1085; clear HB; have BK1085 := n0_; have HB := n1_; have BK1086 := n2_; have GW1086 := n3_; have GE1086 := n4_; have NB1085_1086 := n5_; have NB1086_1085 := n6_; clear n0_ n1_ n2_ n3_ n4_ n5_ n6_; clear hb hbox hg) | ((with_reducible refine gate_dst (N := 4) rfl ?_); refine qx_ 4 #[.int .i64 0, .int .i64 0] 23 ?hr ?_; (case hr => first | (go_simp; done) | (go_simp; rfl)); intro gb1087 hg w8 hbox hb; have n0_ := Aside0.mk (qk_ BK1085.out hb); have n1_ := Aside0.mk (qk_ BK1086.out hb); have n2_ := Aside0.mk (below_step (q2_ HB.out GE1085.out GE1086.out) hb); have n3_ := Aside0.mk (hbox); have n4_ := Aside0.mk (qs_ hg (q2_ HB.out GE1085.out GE1086.out) : w.heap.size ≤ gb1087); have n5_ := n4_; have n6_ := Aside0.mk (qn_ hg BK1085.out); have n7_ := Aside0.mk (Ne.symm (qn_ hg BK1085.out)); have n8_ := Aside0.mk (qn_ hg BK1086.out); have n9_ := Aside0.mk (Ne.symm (qn_ hg BK1086.out)); clear BK1085; clear BK1086; clear HB; have BK1085 := n0_; have BK1086 := n1_; have HB := n2_; have BK1087 := n3_; have GW1087 := n4_; have GE1087 := n5_; have NB1085_1087 := n6_; have NB1087_1085 := n7_; have NB1086_1087 := n8_; have NB1087_1086 := n9_; clear n0_ n1_ n2_ n3_ n4_ n5_ n6_ n7_ n8_ n9_; clear hb hbox hg; have hnb9 := NB1086_1085.out; have hnc9 := NB1085_1086.out; have hnb10 := NB1086_1087.out; have hnc10 := NB1087_1086.out; have hcz11_0 : w8.cell? ⟨gb1086, 0, none⟩ = some (.int .i64 a1_0) := (blk_cell BK1086.out 0).trans rfl; have hcz11_1 : w8.cell? ⟨gb1086, 1, none⟩ = some (.int .i64 a1_1) := (blk_cell BK1086.out 1).trans rfl; have hfz11_0 := blk_frozen BK1086.out 0; have hfz11_1 := blk_frozen BK1086.out 1) | ((with_reducible refine gate_callee (f := 44) rfl ?_); refine goesL_ (some 10) rfl rfl Tryd.func44 (by kernel_rfl) rfl #[.agg #[.int .i64 a1_0, .int .i64 a1_1]] rfl qe_ ?_; (with_reducible refine (num_Neg.calls k a1_0 a1_1 t1088 t1089 t1090 _ A3.out).mono ?_); rintro e w12 ⟨rfl, hb⟩; refine ⟨_, rfl, ?_⟩; have n0_ := Aside0.mk (qk_ BK1085.out hb); have n1_ := Aside0.mk (qk_ BK1086.out hb); have n2_ := Aside0.mk (qk_ BK1087.out hb); have n3_ := Aside0.mk (below_step (q3_ HB.out GE1085.out GE1086.out GE1087.out) hb); clear BK1085; clear BK1086; clear BK1087; clear HB; have BK1085 := n0_; have BK1086 := n1_; have BK1087 := n2_; have HB := n3_; clear n0_ n1_ n2_ n3_; (try clear hb); (try clear hb2); (try clear hk); (try clear hi)) | ((with_reducible refine gate_dst (N := 6) rfl ?_); refine qx_ 6 #[.int .i64 0, .int .i64 0] 23 ?hr ?_; (case hr => first | (go_simp; done) | (go_simp; rfl)); intro gb1091 hg w13 hbox hb; have n0_ := Aside0.mk (qk_ BK1085.out hb); have n1_ := Aside0.mk (qk_ BK1086.out hb); have n2_ := Aside0.mk (qk_ BK1087.out hb); have n3_ := Aside0.mk (below_step (q3_ HB.out GE1085.out GE1086.out GE1087.out) hb); have n4_ := Aside0.mk (hbox); have n5_ := Aside0.mk (qs_ hg (q3_ HB.out GE1085.out GE1086.out GE1087.out) : w.heap.size ≤ gb1091); have n6_ := n5_; have n7_ := Aside0.mk (qn_ hg BK1085.out); have n8_ := Aside0.mk (Ne.symm (qn_ hg BK1085.out)); have n9_ := Aside0.mk (qn_ hg BK1086.out); have n10_ := Aside0.mk (Ne.symm (qn_ hg BK1086.out)); have n11_ := Aside0.mk (qn_ hg BK1087.out); have n12_ := Aside0.mk (Ne.symm (qn_ hg BK1087.out)); clear BK1085; clear BK1086; clear BK1087; clear HB; have BK1085 := n0_; have BK1086 := n1_; have BK1087 := n2_; have HB := n3_; have BK1091 := n4_; have GW1091 := n5_; have GE1091 := n6_; have NB1085_1091 := n7_; have NB1091_1085 := n8_; have NB1086_1091 := n9_; have NB1091_1086 := n10_; have NB1087_1091 := n11_; have NB1091_1087 := n12_; clear n0_ n1_ n2_ n3_ n4_ n5_ n6_ n7_ n8_ n9_ n10_ n11_ n12_; clear hb hbox hg; have hnb14 := NB1091_1085.out; have hnc14 := NB1085_1091.out; have hnb15 := NB1091_1086.out; have hnc15 := NB1086_1091.out; have hnb16 := NB1091_1087.out; have hnc16 := NB1087_1091.out; have hcz17_0 : w13.cell? ⟨gb1091, 0, none⟩ = some (.int .i64 0) := (blk_cell BK1091.out 0).trans rfl; have hcz17_1 : w13.cell? ⟨gb1091, 1, none⟩ = some (.int .i64 0) := (blk_cell BK1091.out 1).trans rfl; have hfz17_0 := blk_frozen BK1091.out 0; have hfz17_1 := blk_frozen BK1091.out 1; have hnb18 := NB1085_1087.out; have hnc18 := NB1087_1085.out; have hcz19_0 : w13.cell? ⟨gb1085, 0, none⟩ = some (.int .i64 a0_0) := (blk_cell BK1085.out 0).trans rfl; have hcz19_1 : w13.cell? ⟨gb1085, 1, none⟩ = some (.int .i64 a0_1) := (blk_cell BK1085.out 1).trans rfl; have hfz19_0 := blk_frozen BK1085.out 0; have hfz19_1 := blk_frozen BK1085.out 1) | ((with_reducible refine gate_callee (f := 52) rfl ?_); refine goesL_ (some 19) rfl rfl Tryd.func52 (by kernel_rfl) rfl #[.agg #[.int .i64 a0_0, .int .i64 a0_1], .agg #[.int .i64 t1088, .int .i64 t1089]] rfl qe_ ?_; (with_reducible refine (num_Add.calls k a0_0 a0_1 t1088 t1089 t1092 t1093 t1094 _ A5.out).mono ?_); rintro e w20 ⟨rfl, hb⟩; refine ⟨_, rfl, ?_⟩; have n0_ := Aside0.mk (blk_below (g := gb1085) (o := .cells #[.int .i64 a0_0, .int .i64 a0_1] 23 (0, 0)) (by (with_reducible repeat (first | refine blk_drewN ?_ _ | refine blk_drew ?_ | refine blk_alloc ?_ _)); refine blk_far ?_ NB1085_1091.out _; (with_reducible repeat (first | refine blk_drewN ?_ _ | refine blk_drew ?_ | refine blk_alloc ?_ _)); refine blk_far ?_ NB1085_1091.out _; (with_reducible repeat (first | refine blk_drewN ?_ _ | refine blk_drew ?_ | refine blk_alloc ?_ _)); exact BK1085.out) hb); have n1_ := Aside0.mk (blk_below (g := gb1086) (o := .cells #[.int .i64 a1_0, .int .i64 a1_1] 23 (0, 0)) (by (with_reducible repeat (first | refine blk_drewN ?_ _ | refine blk_drew ?_ | refine blk_alloc ?_ _)); refine blk_far ?_ NB1086_1091.out _; (with_reducible repeat (first | refine blk_drewN ?_ _ | refine blk_drew ?_ | refine blk_alloc ?_ _)); refine blk_far ?_ NB1086_1091.out _; (with_reducible repeat (first | refine blk_drewN ?_ _ | refine blk_drew ?_ | refine blk_alloc ?_ _)); exact BK1086.out) hb); have n2_ := Aside0.mk (blk_below (g := gb1087) (o := .cells #[.int .i64 0, .int .i64 0] 23 (0, 0)) (by (with_reducible repeat (first | refine blk_drewN ?_ _ | refine blk_drew ?_ | refine blk_alloc ?_ _)); refine blk_far ?_ NB1087_1091.out _; (with_reducible repeat (first | refine blk_drewN ?_ _ | refine blk_drew ?_ | refine blk_alloc ?_ _)); refine blk_far ?_ NB1087_1091.out _; (with_reducible repeat (first | refine blk_drewN ?_ _ | refine blk_drew ?_ | refine blk_alloc ?_ _)); exact BK1087.out) hb); have n3_ := Aside0.mk (blk_below (g := gb1091) (o := .cells #[.int .i64 t1088, .int .i64 t1089] 23 (0, 0)) (by (with_reducible repeat (first | refine blk_drewN ?_ _ | refine blk_drew ?_ | refine blk_alloc ?_ _)); refine blk_put (cs := #[.int .i64 t1088, .int .i64 0]) ?_ 1 _ rfl; (with_reducible repeat (first | refine blk_drewN ?_ _ | refine blk_drew ?_ | refine blk_alloc ?_ _)); refine blk_put (cs := #[.int .i64 0, .int .i64 0]) ?_ 0 _ rfl; (with_reducible repeat (first | refine blk_drewN ?_ _ | refine blk_drew ?_ | refine blk_alloc ?_ _)); exact BK1091.out) hb); have n4_ := Aside0.mk (below_step (q4_ HB.out GE1085.out GE1086.out GE1087.out GE1091.out) hb); clear BK1085; clear BK1086; clear BK1087; clear BK1091; clear HB; have BK1085 := n0_; have BK1086 := n1_; have BK1087 := n2_; have BK1091 := n3_; have HB := n4_; clear n0_ n1_ n2_ n3_ n4_; (try clear hb); (try clear hb2); (try clear hk); (try clear hi); have hcz21_0 : w20.cell? ⟨gb1087, 0, none⟩ = some (.int .i64 0) := (blk_cell BK1087.out 0).trans rfl; have hcz21_1 : w20.cell? ⟨gb1087, 1, none⟩ = some (.int .i64 0) := (blk_cell BK1087.out 1).trans rfl; have hfz21_0 := blk_frozen BK1087.out 0; have hfz21_1 := blk_frozen BK1087.out 1))
    refine bodyPost_ret (results_ct rfl _ _ gb1087 23 #[.int .i64 t1092, .int .i64 t1093] (0, 0) _ rfl (by (with_reducible repeat (first | refine blk_drewN ?_ _ | refine blk_drew ?_ | refine blk_alloc ?_ _)); refine blk_put (cs := #[.int .i64 t1092, .int .i64 0]) ?_ 1 _ rfl; (with_reducible repeat (first | refine blk_drewN ?_ _ | refine blk_drew ?_ | refine blk_alloc ?_ _)); refine blk_put (cs := #[.int .i64 0, .int .i64 0]) ?_ 0 _ rfl; (with_reducible repeat (first | refine blk_drewN ?_ _ | refine blk_drew ?_ | refine blk_alloc ?_ _)); exact BK1087.out) Tryd.underlying23 rfl (by kernel_rfl)) rfl ?_
    exact ⟨by first | rfl | (simp [errW_none, errW_some] <;> rfl) | (simp [*, errW_none, errW_some] <;> rfl), (q4_ HB.out GE1085.out GE1086.out GE1087.out GE1091.out)⟩
  · rw [if_neg c4] at H
    have c4b0 : (t1090 == 0) = false := beq_eq_false_iff_ne.mpr c4
    have c4b1 : (t1090 != 0) = true := bne_iff_ne.mpr c4
    simp only [Option.some.injEq, Prod.mk.injEq] at H
    obtain ⟨rfl, rfl, rfl⟩ := H
    go_enter Tryd.func53, Tryd.ntmps53
    go_wp2_with (first | ((with_reducible refine gate_dst (N := 2) rfl ?_); refine qx_ 2 #[.int .i64 a0_0, .int .i64 a0_1] 23 ?hr ?_; (case hr => first | (go_simp; done) | (go_simp; rfl)); intro gb1085 hg w22 hbox hb; have n0_ := Aside0.mk (below_step (q0_ HB.out) hb); have n1_ := Aside0.mk (hbox); have n2_ := Aside0.mk (qs_ hg (q0_ HB.out) : w.heap.size ≤ gb1085); have n3_ := n2_; clear HB; have HB := n0_; have BK1085 := n1_; have GW1085 := n2_; have GE1085 := n3_; clear n0_ n1_ n2_ n3_; clear hb hbox hg) | ((with_reducible refine gate_dst (N := 3) rfl ?_); refine qx_ 3 #[.int .i64 a1_0, .int .i64 a1_1] 23 ?hr ?_; (case hr => first | (go_simp; done) | (go_simp; rfl)); intro gb1086 hg w23 hbox hb; have n0_ := Aside0.mk (qk_ BK1085.out hb); have n1_ := Aside0.mk (below_step (q1_ HB.out GE1085.out) hb); have n2_ := Aside0.mk (hbox); have n3_ := Aside0.mk (qs_ hg (q1_ HB.out GE1085.out) : w.heap.size ≤ gb1086); have n4_ := n3_; have n5_ := Aside0.mk (qn_ hg BK1085.out); have n6_ := Aside0.mk (Ne.symm (qn_ hg BK1085.out)); clear BK1085; clear HB; have BK1085 := n0_; have HB := n1_; have BK1086 := n2_; have GW1086 := n3_; have GE1086 := n4_; have NB1085_1086 := n5_; have NB1086_1085 := n6_; clear n0_ n1_ n2_ n3_ n4_ n5_ n6_; clear hb hbox hg) | ((with_reducible refine gate_dst (N := 4) rfl ?_); refine qx_ 4 #[.int .i64 0, .int .i64 0] 23 ?hr ?_; (case hr => first | (go_simp; done) | (go_simp; rfl)); intro gb1087 hg w24 hbox hb; have n0_ := Aside0.mk (qk_ BK1085.out hb); have n1_ := Aside0.mk (qk_ BK1086.out hb); have n2_ := Aside0.mk (below_step (q2_ HB.out GE1085.out GE1086.out) hb); have n3_ := Aside0.mk (hbox); have n4_ := Aside0.mk (qs_ hg (q2_ HB.out GE1085.out GE1086.out) : w.heap.size ≤ gb1087); have n5_ := n4_; have n6_ := Aside0.mk (qn_ hg BK1085.out); have n7_ := Aside0.mk (Ne.symm (qn_ hg BK1085.out)); have n8_ := Aside0.mk (qn_ hg BK1086.out); have n9_ := Aside0.mk (Ne.symm (qn_ hg BK1086.out)); clear BK1085; clear BK1086; clear HB; have BK1085 := n0_; have BK1086 := n1_; have HB := n2_; have BK1087 := n3_; have GW1087 := n4_; have GE1087 := n5_; have NB1085_1087 := n6_; have NB1087_1085 := n7_; have NB1086_1087 := n8_; have NB1087_1086 := n9_; clear n0_ n1_ n2_ n3_ n4_ n5_ n6_ n7_ n8_ n9_; clear hb hbox hg; have hnb25 := NB1086_1085.out; have hnc25 := NB1085_1086.out; have hnb26 := NB1086_1087.out; have hnc26 := NB1087_1086.out; have hcz27_0 : w24.cell? ⟨gb1086, 0, none⟩ = some (.int .i64 a1_0) := (blk_cell BK1086.out 0).trans rfl; have hcz27_1 : w24.cell? ⟨gb1086, 1, none⟩ = some (.int .i64 a1_1) := (blk_cell BK1086.out 1).trans rfl; have hfz27_0 := blk_frozen BK1086.out 0; have hfz27_1 := blk_frozen BK1086.out 1) | ((with_reducible refine gate_callee (f := 44) rfl ?_); refine goesL_ (some 10) rfl rfl Tryd.func44 (by kernel_rfl) rfl #[.agg #[.int .i64 a1_0, .int .i64 a1_1]] rfl qe_ ?_; (with_reducible refine (num_Neg.calls k a1_0 a1_1 t1088 t1089 t1090 _ A3.out).mono ?_); rintro e w28 ⟨rfl, hb⟩; refine ⟨_, rfl, ?_⟩; have n0_ := Aside0.mk (qk_ BK1085.out hb); have n1_ := Aside0.mk (qk_ BK1086.out hb); have n2_ := Aside0.mk (qk_ BK1087.out hb); have n3_ := Aside0.mk (below_step (q3_ HB.out GE1085.out GE1086.out GE1087.out) hb); clear BK1085; clear BK1086; clear BK1087; clear HB; have BK1085 := n0_; have BK1086 := n1_; have BK1087 := n2_; have HB := n3_; clear n0_ n1_ n2_ n3_; (try clear hb); (try clear hb2); (try clear hk); (try clear hi)) | ((with_reducible refine gate_dst (N := 6) rfl ?_); refine qx_ 6 #[.int .i64 0, .int .i64 0] 23 ?hr ?_; (case hr => first | (go_simp; done) | (go_simp; rfl)); intro gb1091 hg w29 hbox hb; have n0_ := Aside0.mk (qk_ BK1085.out hb); have n1_ := Aside0.mk (qk_ BK1086.out hb); have n2_ := Aside0.mk (qk_ BK1087.out hb); have n3_ := Aside0.mk (below_step (q3_ HB.out GE1085.out GE1086.out GE1087.out) hb); have n4_ := Aside0.mk (hbox); have n5_ := Aside0.mk (qs_ hg (q3_ HB.out GE1085.out GE1086.out GE1087.out) : w.heap.size ≤ gb1091); have n6_ := n5_; have n7_ := Aside0.mk (qn_ hg BK1085.out); have n8_ := Aside0.mk (Ne.symm (qn_ hg BK1085.out)); have n9_ := Aside0.mk (qn_ hg BK1086.out); have n10_ := Aside0.mk (Ne.symm (qn_ hg BK1086.out)); have n11_ := Aside0.mk (qn_ hg BK1087.out); have n12_ := Aside0.mk (Ne.symm (qn_ hg BK1087.out)); clear BK1085; clear BK1086; clear BK1087; clear HB; have BK1085 := n0_; have BK1086 := n1_; have BK1087 := n2_; have HB := n3_; have BK1091 := n4_; have GW1091 := n5_; have GE1091 := n6_; have NB1085_1091 := n7_; have NB1091_1085 := n8_; have NB1086_1091 := n9_; have NB1091_1086 := n10_; have NB1087_1091 := n11_; have NB1091_1087 := n12_; clear n0_ n1_ n2_ n3_ n4_ n5_ n6_ n7_ n8_ n9_ n10_ n11_ n12_; clear hb hbox hg; have hnb30 := NB1091_1085.out; have hnc30 := NB1085_1091.out; have hnb31 := NB1091_1086.out; have hnc31 := NB1086_1091.out; have hnb32 := NB1091_1087.out; have hnc32 := NB1087_1091.out; have hcz33_0 : w29.cell? ⟨gb1091, 0, none⟩ = some (.int .i64 0) := (blk_cell BK1091.out 0).trans rfl; have hcz33_1 : w29.cell? ⟨gb1091, 1, none⟩ = some (.int .i64 0) := (blk_cell BK1091.out 1).trans rfl; have hfz33_0 := blk_frozen BK1091.out 0; have hfz33_1 := blk_frozen BK1091.out 1; have hnb34 := NB1087_1085.out; have hnc34 := NB1085_1087.out; have hcz35_0 : w29.cell? ⟨gb1087, 0, none⟩ = some (.int .i64 0) := (blk_cell BK1087.out 0).trans rfl; have hcz35_1 : w29.cell? ⟨gb1087, 1, none⟩ = some (.int .i64 0) := (blk_cell BK1087.out 1).trans rfl; have hfz35_0 := blk_frozen BK1087.out 0; have hfz35_1 := blk_frozen BK1087.out 1))
    refine bodyPost_ret (results_ct rfl _ _ gb1087 23 #[.int .i64 0, .int .i64 0] (0, 0) _ rfl (by (with_reducible repeat (first | refine blk_drewN ?_ _ | refine blk_drew ?_ | refine blk_alloc ?_ _)); refine blk_put (cs := #[.int .i64 0, .int .i64 0]) ?_ 1 _ rfl; (with_reducible repeat (first | refine blk_drewN ?_ _ | refine blk_drew ?_ | refine blk_alloc ?_ _)); refine blk_put (cs := #[.int .i64 0, .int .i64 0]) ?_ 0 _ rfl; (with_reducible repeat (first | refine blk_drewN ?_ _ | refine blk_drew ?_ | refine blk_alloc ?_ _)); refine blk_far ?_ NB1087_1091.out _; (with_reducible repeat (first | refine blk_drewN ?_ _ | refine blk_drew ?_ | refine blk_alloc ?_ _)); refine blk_far ?_ NB1087_1091.out _; (with_reducible repeat (first | refine blk_drewN ?_ _ | refine blk_drew ?_ | refine blk_alloc ?_ _)); exact BK1087.out) Tryd.underlying23 rfl (by kernel_rfl)) rfl ?_
    exact ⟨by first | rfl | (simp [errW_none, errW_some] <;> rfl) | (simp [*, errW_none, errW_some] <;> rfl), (q4_ HB.out GE1085.out GE1086.out GE1087.out GE1091.out)⟩
def num_Mul.j0 : Nat → Bool → Int → Int → Int → Int → Option (Int × Int × Int)
  | 0, _, _, _, _, _ => none
  | k + 1, x13, x1108000, x1108001, x1109000, x1109001 => if x13 = true then (some (0, 0, 2)) else ((num_size.f x1109000).bind fun t1112 => ((num_times.f k x1108000 x1108001 (decide (x1109000 < 0)) t1112 (IntKind.u64.wrap (x1109001))).bind fun bt1113 => (some (bt1113.1, bt1113.2.1, bt1113.2.2))))
def num_Mul.f (k : Nat) (a0_0 : Int) (a0_1 : Int) (a1_0 : Int) (a1_1 : Int) : Option (Int × Int × Int) := (num_Valid.f k a0_0 a0_1).bind fun t1110 => (if t1110 = true then ((num_Valid.f k a1_0 a1_1).bind fun t1111 => (num_Mul.j0 k (!t1111) a0_0 a0_1 a1_0 a1_1)) else (num_Mul.j0 k true a0_0 a0_1 a1_0 a1_1))
theorem num_Mul.mono_l : ∀ k, (∀ y0 y1 y2 y3 y4, LeO (num_Mul.j0 k y0 y1 y2 y3 y4) (num_Mul.j0 (k + 1) y0 y1 y2 y3 y4))
  | 0 => fun _ _ _ _ _ r h => by simp [num_Mul.j0] at h
  | k + 1 => by
    have ih0 := num_Mul.mono_l k
    · intro y0 y1 y2 y3 y4
      unfold num_Mul.j0
      repeat' first
      | (with_reducible exact ih0 _ _ _ _ _)
      | (with_reducible exact num_Valid.mono _ _ _)
      | (with_reducible exact num_times.mono _ _ _ _ _ _)
      | (with_reducible exact LeO.refl _)
      | (with_reducible exact LeO.none _)
      | (with_reducible refine LeO.ite ?_ ?_)
      | (with_reducible refine LeO.bind ?_ (fun _ => ?_))
      | exact ih0 _ _ _ _ _
      | exact num_Valid.mono _ _ _
      | exact num_times.mono _ _ _ _ _ _
      | exact LeO.none _
      | refine LeO.ite ?_ ?_
      | refine LeO.bind ?_ (fun _ => ?_)
theorem num_Mul.mono : ∀ a0 a1 a2 a3 k, LeO (num_Mul.f k a0 a1 a2 a3) (num_Mul.f (k + 1) a0 a1 a2 a3) := by
  intro a0 a1 a2 a3 k
  have ih0 := num_Mul.mono_l k
  unfold num_Mul.f
  repeat' first
      | (with_reducible exact ih0 _ _ _ _ _)
      | (with_reducible exact num_Valid.mono _ _ _)
      | (with_reducible exact num_times.mono _ _ _ _ _ _)
      | (with_reducible exact LeO.refl _)
      | (with_reducible exact LeO.none _)
      | (with_reducible refine LeO.ite ?_ ?_)
      | (with_reducible refine LeO.bind ?_ (fun _ => ?_))
      | exact ih0 _ _ _ _ _
      | exact num_Valid.mono _ _ _
      | exact num_times.mono _ _ _ _ _ _
      | exact LeO.none _
      | refine LeO.ite ?_ ?_
      | refine LeO.bind ?_ (fun _ => ?_)
def num_Mul.T3 : Bool × List (List Nat × List Nat) := (true, [([], []), ([], []), ([1], [1]), ([2], [2]), ([], []), ([4], [4]), ([5], [5]), ([], []), ([7], [7]), ([8], [8]), ([0, 3, 6, 9, 6], [0, 3, 6, 9]), ([10], [10]), ([10], [10]), ([11, 10, 0, 1, 2, 3, 4, 5, 6, 7, 8, 9, 10, 11, 12], [11]), ([12, 13, 0, 1, 2, 3, 4, 5, 6, 7, 8, 9, 10, 11, 12, 13], [12])])
def num_Mul.B3 : List Nat := [0, 0, 2, 6, 0, 16, 48, 0, 128, 384, 1023, 2047, 2047, 8191, 16383]
theorem num_Mul.tab3 : rtab .any (opsOf Tryd.f54 3) = num_Mul.T3 := by kernel_rfl
theorem num_Mul.bits3 : waitsOk num_Mul.T3.2 num_Mul.B3 = true := by kernel_rfl
set_option maxHeartbeats 8000000 in
set_option maxRecDepth 100000 in
theorem num_Mul.calls (k : Nat) (a0_0 : Int) (a0_1 : Int) (a1_0 : Int) (a1_1 : Int) (r1 : Int) (r2 : Int) (r3 : Int) (w : World) (h : num_Mul.f k a0_0 a0_1 a1_0 a1_1 = some (r1, r2, r3)) :
    Calls Tryd.prog 54 #[.agg #[.int .i64 a0_0, .int .i64 a0_1], .agg #[.int .i64 a1_0, .int .i64 a1_1]] w fun e w' => e = .returned (.tuple #[.agg #[.int .i64 r1, .int .i64 r2], .int .i64 r3]) ∧ Below w.heap.size w w' := by
  have hu23 := Tryd.underlying23
  have HB := Aside0.mk (Below.refl w.heap.size w)
  have H : ((num_Valid.f k a0_0 a0_1).bind fun t1110 => (if t1110 = true then ((num_Valid.f k a1_0 a1_1).bind fun t1111 => (num_Mul.j0 k (!t1111) a0_0 a0_1 a1_0 a1_1)) else (num_Mul.j0 k true a0_0 a0_1 a1_0 a1_1))) = some (r1, r2, r3) := h
  clear h
  have HC3 := Aside0.mk H
  clear H
  go_enter Tryd.func54, Tryd.ntmps54
  go_upto_region 1 with (first | ((with_reducible refine gate_dst (N := 2) rfl ?_); refine qx_ 2 #[.int .i64 a0_0, .int .i64 a0_1] 23 ?hr ?_; (case hr => first | (go_simp; done) | (go_simp; rfl)); intro gb1107 hg w4 hbox hb; have n0_ := Aside0.mk (below_step (q0_ HB.out) hb); have n1_ := Aside0.mk (hbox); have n2_ := Aside0.mk (qs_ hg (q0_ HB.out) : w.heap.size ≤ gb1107); have n3_ := n2_; clear HB; have HB := n0_; have BK1107 := n1_; have GW1107 := n2_; have GE1107 := n3_; clear n0_ n1_ n2_ n3_; clear hb hbox hg) | ((with_reducible refine gate_dst (N := 3) rfl ?_); refine qx_ 3 #[.int .i64 a1_0, .int .i64 a1_1] 23 ?hr ?_; (case hr => first | (go_simp; done) | (go_simp; rfl)); intro gb1108 hg w5 hbox hb; have n0_ := Aside0.mk (qk_ BK1107.out hb); have n1_ := Aside0.mk (below_step (q1_ HB.out GE1107.out) hb); have n2_ := Aside0.mk (hbox); have n3_ := Aside0.mk (qs_ hg (q1_ HB.out GE1107.out) : w.heap.size ≤ gb1108); have n4_ := n3_; have n5_ := Aside0.mk (qn_ hg BK1107.out); have n6_ := Aside0.mk (Ne.symm (qn_ hg BK1107.out)); clear BK1107; clear HB; have BK1107 := n0_; have HB := n1_; have BK1108 := n2_; have GW1108 := n3_; have GE1108 := n4_; have NB1107_1108 := n5_; have NB1108_1107 := n6_; clear n0_ n1_ n2_ n3_ n4_ n5_ n6_; clear hb hbox hg) | ((with_reducible refine gate_dst (N := 4) rfl ?_); refine qx_ 4 #[.int .i64 0, .int .i64 0] 23 ?hr ?_; (case hr => first | (go_simp; done) | (go_simp; rfl)); intro gb1109 hg w6 hbox hb; have n0_ := Aside0.mk (qk_ BK1107.out hb); have n1_ := Aside0.mk (qk_ BK1108.out hb); have n2_ := Aside0.mk (below_step (q2_ HB.out GE1107.out GE1108.out) hb); have n3_ := Aside0.mk (hbox); have n4_ := Aside0.mk (qs_ hg (q2_ HB.out GE1107.out GE1108.out) : w.heap.size ≤ gb1109); have n5_ := n4_; have n6_ := Aside0.mk (qn_ hg BK1107.out); have n7_ := Aside0.mk (Ne.symm (qn_ hg BK1107.out)); have n8_ := Aside0.mk (qn_ hg BK1108.out); have n9_ := Aside0.mk (Ne.symm (qn_ hg BK1108.out)); clear BK1107; clear BK1108; clear HB; have BK1107 := n0_; have BK1108 := n1_; have HB := n2_; have BK1109 := n3_; have GW1109 := n4_; have GE1109 := n5_; have NB1107_1109 := n6_; have NB1109_1107 := n7_; have NB1108_1109 := n8_; have NB1109_1108 := n9_; clear n0_ n1_ n2_ n3_ n4_ n5_ n6_ n7_ n8_ n9_; clear hb hbox hg))
  (try simp only [Act.put, List.setIfInBounds_toArray, List.set_cons_zero, List.set_cons_succ])
  go_cut [13] (fun v13 wc => ∃ (kq : Nat) (x13_2 : Bool), v13 = .bool x13_2 ∧ Aside0 (num_Mul.j0 kq x13_2 a0_0 a0_1 a1_0 a1_1 = some (r1, r2, r3)) ∧ Aside0 (kq ≤ k) ∧ Aside0 (wc.heap[gb1107]? = some (.cells #[.int .i64 a0_0, .int .i64 a0_1] 23 (0, 0))) ∧ Aside0 (wc.heap[gb1108]? = some (.cells #[.int .i64 a1_0, .int .i64 a1_1] 23 (0, 0))) ∧ Aside0 (wc.heap[gb1109]? = some (.cells #[.int .i64 0, .int .i64 0] 23 (0, 0))) ∧ Aside0 (Below w.heap.size w wc))
  case first =>
    have H := HC3.out
    clear HC3
    replace H := Option.bind_eq_some_iff.mp H
    obtain ⟨t1110, A70, H⟩ := H
    replace H : (if t1110 = true then ((num_Valid.f k a1_0 a1_1).bind fun t1111 => (num_Mul.j0 k (!t1111) a0_0 a0_1 a1_0 a1_1)) else (num_Mul.j0 k true a0_0 a0_1 a1_0 a1_1)) = some (r1, r2, r3) := H
    have A7 := Aside0.mk A70
    clear A70
    by_cases c8 : t1110 = true
    · subst c8
      have H1 : ((num_Valid.f k a1_0 a1_1).bind fun t1111 => (num_Mul.j0 k (!t1111) a0_0 a0_1 a1_0 a1_1)) = some (r1, r2, r3) := by rw [if_pos rfl] at H; exact H
      clear H
      have H := H1
      clear H1
      replace H := Option.bind_eq_some_iff.mp H
      obtain ⟨t1111, A90, H⟩ := H
      replace H : (num_Mul.j0 k (!t1111) a0_0 a0_1 a1_0 a1_1) = some (r1, r2, r3) := H
      have A9 := Aside0.mk A90
      clear A90
      have H' := Aside0.mk H
      clear H
      have hnb10 := NB1107_1108.out
      have hnc10 := NB1108_1107.out
      have hnb11 := NB1107_1109.out
      have hnc11 := NB1109_1107.out
      have hcz12_0 : w6.cell? ⟨gb1107, 0, none⟩ = some (.int .i64 a0_0) := (blk_cell BK1107.out 0).trans rfl
      have hcz12_1 : w6.cell? ⟨gb1107, 1, none⟩ = some (.int .i64 a0_1) := (blk_cell BK1107.out 1).trans rfl
      have hfz12_0 := blk_frozen BK1107.out 0
      have hfz12_1 := blk_frozen BK1107.out 1
      go_wp2_with (first | ((with_reducible refine gate_callee (f := 26) rfl ?_); refine goesL_ (some 7) rfl rfl Tryd.func26 (by kernel_rfl) rfl #[.agg #[.int .i64 a0_0, .int .i64 a0_1]] rfl qe_ ?_; (with_reducible refine (num_Valid.calls k a0_0 a0_1 true _ A7.out).mono ?_); rintro e w13 ⟨rfl, hb⟩; refine ⟨_, rfl, ?_⟩; have n0_ := Aside0.mk (qk_ BK1107.out hb); have n1_ := Aside0.mk (qk_ BK1108.out hb); have n2_ := Aside0.mk (qk_ BK1109.out hb); have n3_ := Aside0.mk (below_step (q3_ HB.out GE1107.out GE1108.out GE1109.out) hb); clear BK1107; clear BK1108; clear BK1109; clear HB; have BK1107 := n0_; have BK1108 := n1_; have BK1109 := n2_; have HB := n3_; clear n0_ n1_ n2_ n3_; (try clear hb); (try clear hb2); (try clear hk); (try clear hi); have hnb14 := NB1108_1109.out; have hnc14 := NB1109_1108.out; have hcz15_0 : w13.cell? ⟨gb1108, 0, none⟩ = some (.int .i64 a1_0) := (blk_cell BK1108.out 0).trans rfl; have hcz15_1 : w13.cell? ⟨gb1108, 1, none⟩ = some (.int .i64 a1_1) := (blk_cell BK1108.out 1).trans rfl; have hfz15_0 := blk_frozen BK1108.out 0; have hfz15_1 := blk_frozen BK1108.out 1) | (go_at_call 26; (with_reducible refine (num_Valid.calls k a1_0 a1_1 t1111 _ A9.out).mono ?_); rintro e w16 ⟨rfl, hb⟩; have n0_ := Aside0.mk (qk_ BK1107.out hb); have n1_ := Aside0.mk (qk_ BK1108.out hb); have n2_ := Aside0.mk (qk_ BK1109.out hb); have n3_ := Aside0.mk (below_step (q3_ HB.out GE1107.out GE1108.out GE1109.out) hb); clear BK1107; clear BK1108; clear BK1109; clear HB; have BK1107 := n0_; have BK1108 := n1_; have BK1109 := n2_; have HB := n3_; clear n0_ n1_ n2_ n3_; (try clear hb); (try clear hb2); (try clear hk); (try clear hi)))
      go_meet
      case rel => exact ⟨_, (!t1111), (by first | rfl | (simp; done) | (simp [*]; done)), H', ⟨by first | omega | exact Nat.le_refl _⟩, ⟨by (with_reducible repeat (first | refine blk_drewN ?_ _ | refine blk_drew ?_ | refine blk_alloc ?_ _)); exact BK1107.out⟩, ⟨by (with_reducible repeat (first | refine blk_drewN ?_ _ | refine blk_drew ?_ | refine blk_alloc ?_ _)); exact BK1108.out⟩, ⟨by (with_reducible repeat (first | refine blk_drewN ?_ _ | refine blk_drew ?_ | refine blk_alloc ?_ _)); exact BK1109.out⟩, ⟨(q3_ HB.out GE1107.out GE1108.out GE1109.out)⟩⟩
    · replace c8 := Bool.eq_false_iff.mpr c8
      subst c8
      have H1 : (num_Mul.j0 k true a0_0 a0_1 a1_0 a1_1) = some (r1, r2, r3) := by rw [if_neg (show ¬ (false = true) by decide)] at H; exact H
      clear H
      have H := H1
      clear H1
      have H' := Aside0.mk H
      clear H
      have hnb17 := NB1107_1108.out
      have hnc17 := NB1108_1107.out
      have hnb18 := NB1107_1109.out
      have hnc18 := NB1109_1107.out
      have hcz19_0 : w6.cell? ⟨gb1107, 0, none⟩ = some (.int .i64 a0_0) := (blk_cell BK1107.out 0).trans rfl
      have hcz19_1 : w6.cell? ⟨gb1107, 1, none⟩ = some (.int .i64 a0_1) := (blk_cell BK1107.out 1).trans rfl
      have hfz19_0 := blk_frozen BK1107.out 0
      have hfz19_1 := blk_frozen BK1107.out 1
      go_wp2_with (first | ((with_reducible refine gate_callee (f := 26) rfl ?_); refine goesL_ (some 7) rfl rfl Tryd.func26 (by kernel_rfl) rfl #[.agg #[.int .i64 a0_0, .int .i64 a0_1]] rfl qe_ ?_; (with_reducible refine (num_Valid.calls k a0_0 a0_1 false _ A7.out).mono ?_); rintro e w20 ⟨rfl, hb⟩; refine ⟨_, rfl, ?_⟩; have n0_ := Aside0.mk (qk_ BK1107.out hb); have n1_ := Aside0.mk (qk_ BK1108.out hb); have n2_ := Aside0.mk (qk_ BK1109.out hb); have n3_ := Aside0.mk (below_step (q3_ HB.out GE1107.out GE1108.out GE1109.out) hb); clear BK1107; clear BK1108; clear BK1109; clear HB; have BK1107 := n0_; have BK1108 := n1_; have BK1109 := n2_; have HB := n3_; clear n0_ n1_ n2_ n3_; (try clear hb); (try clear hb2); (try clear hk); (try clear hi)))
      go_meet
      case rel => exact ⟨_, (true), (by first | rfl | (simp; done) | (simp [*]; done)), H', ⟨by first | omega | exact Nat.le_refl _⟩, ⟨by (with_reducible repeat (first | refine blk_drewN ?_ _ | refine blk_drew ?_ | refine blk_alloc ?_ _)); exact BK1107.out⟩, ⟨by (with_reducible repeat (first | refine blk_drewN ?_ _ | refine blk_drew ?_ | refine blk_alloc ?_ _)); exact BK1108.out⟩, ⟨by (with_reducible repeat (first | refine blk_drewN ?_ _ | refine blk_drew ?_ | refine blk_alloc ?_ _)); exact BK1109.out⟩, ⟨(q3_ HB.out GE1107.out GE1108.out GE1109.out)⟩⟩
  case rest =>
    clear HC3
    try clear c1
    try clear c2
    try clear p2
    try clear c5
    try clear c8
    try clear c10
    try clear c11
    try clear c14
    try clear c17
    try clear c18
    try clear hcz12_0
    try clear hcz12_1
    try clear hcz15_0
    try clear hcz15_1
    try clear hcz19_0
    try clear hcz19_1
    try clear hfz12_0
    try clear hfz12_1
    try clear hfz15_0
    try clear hfz15_1
    try clear hfz19_0
    try clear hfz19_1
    obtain ⟨kq, x13_2, rfl, HA, HJ2, BK1107, BK1108, BK1109, HB⟩ := hcut
    cases kq with
    | zero => exact absurd HA.out (by simp [num_Mul.j0])
    | succ kj2 =>
      have H := HA.out
      clear HA
      simp only [num_Mul.j0] at H
      by_cases c21 : x13_2 = true
      · subst c21
        have H1 : (some (0, 0, 2)) = some (r1, r2, r3) := by rw [if_pos rfl] at H; exact H
        clear H
        have H := H1
        clear H1
        simp only [Option.some.injEq, Prod.mk.injEq] at H
        obtain ⟨rfl, rfl, rfl⟩ := H
        have hnb22 := NB1109_1107.out
        have hnc22 := NB1107_1109.out
        have hnb23 := NB1109_1108.out
        have hnc23 := NB1108_1109.out
        have hcz24_0 : wc.cell? ⟨gb1109, 0, none⟩ = some (.int .i64 0) := (blk_cell BK1109.out 0).trans rfl
        have hcz24_1 : wc.cell? ⟨gb1109, 1, none⟩ = some (.int .i64 0) := (blk_cell BK1109.out 1).trans rfl
        have hfz24_0 := blk_frozen BK1109.out 0
        have hfz24_1 := blk_frozen BK1109.out 1
        go_wp2
        refine bodyPost_ret (results_ct rfl _ _ gb1109 23 #[.int .i64 0, .int .i64 0] (0, 0) _ rfl (by (with_reducible repeat (first | refine blk_drewN ?_ _ | refine blk_drew ?_ | refine blk_alloc ?_ _)); refine blk_put (cs := #[.int .i64 0, .int .i64 0]) ?_ 1 _ rfl; (with_reducible repeat (first | refine blk_drewN ?_ _ | refine blk_drew ?_ | refine blk_alloc ?_ _)); refine blk_put (cs := #[.int .i64 0, .int .i64 0]) ?_ 0 _ rfl; (with_reducible repeat (first | refine blk_drewN ?_ _ | refine blk_drew ?_ | refine blk_alloc ?_ _)); exact BK1109.out) Tryd.underlying23 rfl (by kernel_rfl)) rfl ?_
        exact ⟨by first | rfl | (simp [errW_none, errW_some] <;> rfl) | (simp [*, errW_none, errW_some] <;> rfl), (q3_ HB.out GE1107.out GE1108.out GE1109.out)⟩
      · replace c21 := Bool.eq_false_iff.mpr c21
        subst c21
        have H1 : ((num_size.f a1_0).bind fun t1112 => ((num_times.f kj2 a0_0 a0_1 (decide (a1_0 < 0)) t1112 (IntKind.u64.wrap (a1_1))).bind fun bt1113 => (some (bt1113.1, bt1113.2.1, bt1113.2.2)))) = some (r1, r2, r3) := by rw [if_neg (show ¬ (false = true) by decide)] at H; exact H
        clear H
        have H := H1
        clear H1
        replace H := Option.bind_eq_some_iff.mp H
        obtain ⟨t1112, A250, H⟩ := H
        replace H : ((num_times.f kj2 a0_0 a0_1 (decide (a1_0 < 0)) t1112 (IntKind.u64.wrap (a1_1))).bind fun bt1113 => (some (bt1113.1, bt1113.2.1, bt1113.2.2))) = some (r1, r2, r3) := H
        have A25 := Aside0.mk A250
        clear A250
        replace H := Option.bind_eq_some_iff.mp H
        obtain ⟨⟨t1113, t1114, t1115⟩, A260, H⟩ := H
        replace H : (some (t1113, t1114, t1115)) = some (r1, r2, r3) := H
        have A26 := Aside0.mk A260
        clear A260
        simp only [Option.some.injEq, Prod.mk.injEq] at H
        obtain ⟨rfl, rfl, rfl⟩ := H
        try go_wp2
        have n0_ := Aside0.mk (blk_drew BK1107.out)
        have n1_ := Aside0.mk (blk_drew BK1108.out)
        have n2_ := Aside0.mk (blk_drew BK1109.out)
        have n3_ := Aside0.mk (below_drew1 HB.out)
        clear BK1107
        clear BK1108
        clear BK1109
        clear HB
        have BK1107 := n0_
        have BK1108 := n1_
        have BK1109 := n2_
        have HB := n3_
        clear n0_ n1_ n2_ n3_
        refine start_ (n := 15) (S := fun w' => w'.cell? ⟨gb1107, 0, none⟩ = some (.int .i64 a0_0) ∧ w'.cell? ⟨gb1107, 1, none⟩ = some (.int .i64 a0_1) ∧ w'.cell? ⟨gb1108, 0, none⟩ = some (.int .i64 a1_0) ∧ w'.cell? ⟨gb1108, 1, none⟩ = some (.int .i64 a1_1)) (ds := []) #[false, false, false, false, false, false, false, false, false, false, false, false, false, false, false] (by kernel_rfl) rfl rfl ⟨(blk_cell BK1107.out 0).trans rfl, (blk_cell BK1107.out 1).trans rfl, (blk_cell BK1108.out 0).trans rfl, (blk_cell BK1108.out 1).trans rfl⟩ (fun hHeld => ?_); refine with_tabW num_Mul.tab3 num_Mul.bits3 (fun HT_ HW_ => ?_)
        generalize wc.drew = w27 at BK1107 BK1108 BK1109 HB hHeld ⊢
        refine pure_ (i := 1) (N := some 16) (v := ?_) (a' := ?_) #[false, true, false, false, false, false, false, false, false, false, false, false, false, false, false] rfl rfl (any_of HT_.out (by kernel_rfl)) (fun _ _ _ h => h) (Or.inl ⟨by rfl, ?_⟩) ?_ ?_
        rotate_left
        · intro w'
          go_simp
          with_reducible rfl
        rotate_left
        · simp only [Act.put, List.setIfInBounds_toArray, List.set_cons_zero, List.set_cons_succ, i64_w, i32_w]
          rfl
        refine pure_ (i := 4) (N := some 19) (v := ?_) (a' := ?_) #[false, true, false, false, true, false, false, false, false, false, false, false, false, false, false] rfl rfl (any_of HT_.out (by kernel_rfl)) (fun _ _ _ h => h) (Or.inl ⟨by rfl, ?_⟩) ?_ ?_
        rotate_left
        · intro w'
          go_simp
          with_reducible rfl
        rotate_left
        · simp only [Act.put, List.setIfInBounds_toArray, List.set_cons_zero, List.set_cons_succ, i64_w, i32_w]
          rfl
        refine pure_ (i := 7) (N := some 22) (v := ?_) (a' := ?_) #[false, true, false, false, true, false, false, true, false, false, false, false, false, false, false] rfl rfl (any_of HT_.out (by kernel_rfl)) (fun _ _ _ h => h) (Or.inl ⟨by rfl, ?_⟩) ?_ ?_
        rotate_left
        · intro w'
          go_simp
          with_reducible rfl
        rotate_left
        · simp only [Act.put, List.setIfInBounds_toArray, List.set_cons_zero, List.set_cons_succ, i64_w, i32_w]
          rfl
        refine take_ (i := 0) (N := some 15) (v := ?_) (a' := ?_) #[true, true, false, false, true, false, false, true, false, false, false, false, false, false, false] rfl rfl (take_ofW HT_.out HW_.out (by kernel_rfl)) (fun _ _ _ h => h) (Or.inl ⟨by rfl, ?_⟩) hHeld ?_ ?_
        rotate_left
        · rintro w' ⟨s0, s1, s2, s3⟩
          go_simp
          with_reducible rfl
        rotate_left
        · simp only [Act.put, List.setIfInBounds_toArray, List.set_cons_zero, List.set_cons_succ, i64_w, i32_w]
          rfl
        refine take_ (i := 2) (N := some 17) (v := ?_) (a' := ?_) #[true, true, true, false, true, false, false, true, false, false, false, false, false, false, false] rfl rfl (take_ofW HT_.out HW_.out (by kernel_rfl)) (fun _ _ _ h => h) (Or.inl ⟨by rfl, ?_⟩) hHeld ?_ ?_
        rotate_left
        · rintro w' ⟨s0, s1, s2, s3⟩
          go_simp
          with_reducible rfl
        rotate_left
        · simp only [Act.put, List.setIfInBounds_toArray, List.set_cons_zero, List.set_cons_succ, i64_w, i32_w]
          rfl
        refine pure_ (i := 3) (N := some 18) (v := ?_) (a' := ?_) #[true, true, true, true, true, false, false, true, false, false, false, false, false, false, false] rfl rfl (any_of HT_.out (by kernel_rfl)) (fun _ _ _ h => h) (Or.inl ⟨by rfl, ?_⟩) ?_ ?_
        rotate_left
        · intro w'
          go_simp
          with_reducible rfl
        rotate_left
        · simp only [Act.put, List.setIfInBounds_toArray, List.set_cons_zero, List.set_cons_succ, i64_w, i32_w]
          rfl
        refine take_ (i := 5) (N := some 20) (v := ?_) (a' := ?_) #[true, true, true, true, true, true, false, true, false, false, false, false, false, false, false] rfl rfl (take_ofW HT_.out HW_.out (by kernel_rfl)) (fun _ _ _ h => h) (Or.inl ⟨by rfl, ?_⟩) hHeld ?_ ?_
        rotate_left
        · rintro w' ⟨s0, s1, s2, s3⟩
          go_simp
          with_reducible rfl
        rotate_left
        · simp only [Act.put, List.setIfInBounds_toArray, List.set_cons_zero, List.set_cons_succ, i64_w, i32_w]
          rfl
        refine take_ (i := 8) (N := some 23) (v := ?_) (a' := ?_) #[true, true, true, true, true, true, false, true, true, false, false, false, false, false, false] rfl rfl (take_ofW HT_.out HW_.out (by kernel_rfl)) (fun _ _ _ h => h) (Or.inl ⟨by rfl, ?_⟩) hHeld ?_ ?_
        rotate_left
        · rintro w' ⟨s0, s1, s2, s3⟩
          go_simp
          with_reducible rfl
        rotate_left
        · simp only [Act.put, List.setIfInBounds_toArray, List.set_cons_zero, List.set_cons_succ, i64_w, i32_w]
          rfl
        refine pure_ (i := 9) (N := some 24) (v := ?_) (a' := ?_) #[true, true, true, true, true, true, false, true, true, true, false, false, false, false, false] rfl rfl (any_of HT_.out (by kernel_rfl)) (fun _ _ _ h => h) (Or.inl ⟨by rfl, ?_⟩) ?_ ?_
        rotate_left
        · intro w'
          go_simp
          with_reducible rfl
        rotate_left
        · simp only [Act.put, List.setIfInBounds_toArray, List.set_cons_zero, List.set_cons_succ, i64_w, i32_w]
          rfl
        refine one_ (i := 6) (N := some 21) #[true, true, true, true, true, true, true, true, true, true, false, false, false, false, false] rfl rfl (one_of HT_.out (by kernel_rfl)) (by decide) (fun K hK => ?_)
        refine goes_ Tryd.func78 (by kernel_rfl) rfl #[.int .i64 a1_0] (by rfl) rfl rfl qe_ ?_
        with_reducible refine (num_size.calls a1_0 t1112 _ A25.out).mono ?_
        rintro e w' ⟨rfl, ⟨nd, rfl⟩⟩
        refine ⟨_, rfl, ?_⟩
        refine hK.out _ _ ⟨(blk_cell BK1107.out 0).trans rfl, (blk_cell BK1107.out 1).trans rfl, (blk_cell BK1108.out 0).trans rfl, (blk_cell BK1108.out 1).trans rfl⟩ (fun hHeld => ?_)
        clear hK K
        refine norm_ (a' := ?_) ?_ ?_
        rotate_left
        · show Act.put _ (some 21) _ = _
          simp only [Act.put, List.setIfInBounds_toArray, List.set_cons_zero, List.set_cons_succ, i64_w, i32_w]
          rfl
        refine one_ (i := 10) (N := some 25) #[true, true, true, true, true, true, true, true, true, true, true, false, false, false, false] rfl rfl (one_of HT_.out (by kernel_rfl)) (by decide) (fun K hK => ?_)
        refine goes_ Tryd.func100 (by kernel_rfl) rfl #[.agg #[.int .i64 a0_0, .int .i64 a0_1], .bool (decide (a1_0 < 0)), .int .u64 t1112, .int .u64 (IntKind.u64.wrap (a1_1))] (by rfl) rfl rfl qe_ ?_
        with_reducible refine (num_times.calls kj2 a0_0 a0_1 (decide (a1_0 < 0)) t1112 (IntKind.u64.wrap (a1_1)) t1113 t1114 t1115 _ A26.out).mono ?_
        rintro e w28 ⟨rfl, hb⟩
        refine ⟨_, rfl, ?_⟩
        have n0_ := Aside0.mk (qk_ BK1107.out hb)
        have n1_ := Aside0.mk (qk_ BK1108.out hb)
        have n2_ := Aside0.mk (qk_ BK1109.out hb)
        have n3_ := Aside0.mk (below_step (q3_ HB.out GE1107.out GE1108.out GE1109.out) hb)
        clear BK1107
        clear BK1108
        clear BK1109
        clear HB
        have BK1107 := n0_
        have BK1108 := n1_
        have BK1109 := n2_
        have HB := n3_
        clear n0_ n1_ n2_ n3_
        (try clear hb)
        (try clear hb2)
        (try clear hk)
        (try clear hi)
        refine hK.out _ _ ⟨(blk_cell BK1107.out 0).trans rfl, (blk_cell BK1107.out 1).trans rfl, (blk_cell BK1108.out 0).trans rfl, (blk_cell BK1108.out 1).trans rfl⟩ (fun hHeld => ?_)
        clear hK K
        refine norm_ (a' := ?_) ?_ ?_
        rotate_left
        · show Act.put _ (some 25) _ = _
          simp only [Act.put, List.setIfInBounds_toArray, List.set_cons_zero, List.set_cons_succ, i64_w, i32_w]
          rfl
        refine pure_ (i := 11) (N := some 26) (v := ?_) (a' := ?_) #[true, true, true, true, true, true, true, true, true, true, true, true, false, false, false] rfl rfl (any_of HT_.out (by kernel_rfl)) (fun _ _ _ h => h) (Or.inl ⟨by rfl, ?_⟩) ?_ ?_
        rotate_left
        · intro w'
          go_simp
          with_reducible rfl
        rotate_left
        · simp only [Act.put, List.setIfInBounds_toArray, List.set_cons_zero, List.set_cons_succ, i64_w, i32_w]
          rfl
        refine pure_ (i := 12) (N := some 27) (v := ?_) (a' := ?_) #[true, true, true, true, true, true, true, true, true, true, true, true, true, false, false] rfl rfl (any_of HT_.out (by kernel_rfl)) (fun _ _ _ h => h) (Or.inl ⟨by rfl, ?_⟩) ?_ ?_
        rotate_left
        · intro w'
          go_simp
          with_reducible rfl
        rotate_left
        · simp only [Act.put, List.setIfInBounds_toArray, List.set_cons_zero, List.set_cons_succ, i64_w, i32_w]
          rfl
        refine one_ (i := 13) (N := none) #[true, true, true, true, true, true, true, true, true, true, true, true, true, true, false] rfl rfl (one_of HT_.out (by kernel_rfl)) (by decide) (fun K hK => ?_)
        have hs29 : w28.cell? ⟨gb1109, 0, none⟩ = some (.int .i64 0) := (blk_cell BK1109.out 0).trans rfl
        have hfs29 := blk_frozen BK1109.out 0
        have hns29_0 := NB1107_1109.out
        have hns29_1 := NB1108_1109.out
        have hms29_0 := NB1109_1107.out
        have hms29_1 := NB1109_1108.out
        have hs30 : w28.cell? ⟨gb1109, 1, none⟩ = some (.int .i64 0) := (blk_cell BK1109.out 1).trans rfl
        have hfs30 := blk_frozen BK1109.out 1
        have hns30_0 := NB1107_1109.out
        have hns30_1 := NB1108_1109.out
        have hms30_0 := NB1109_1107.out
        have hms30_1 := NB1109_1108.out
        refine skip_ (w1 := ?_) (by rfl) rfl ?_ ?_
        rotate_left
        · go_simp
          rfl
        refine hK.out _ _ ⟨((cell_far (p := ⟨gb1109, _, none⟩) NB1107_1109.out _).trans (((cell_far (p := ⟨gb1109, _, none⟩) NB1107_1109.out _).trans (hHeld.1)))), ((cell_far (p := ⟨gb1109, _, none⟩) NB1107_1109.out _).trans (((cell_far (p := ⟨gb1109, _, none⟩) NB1107_1109.out _).trans (hHeld.2.1)))), ((cell_far (p := ⟨gb1109, _, none⟩) NB1108_1109.out _).trans (((cell_far (p := ⟨gb1109, _, none⟩) NB1108_1109.out _).trans (hHeld.2.2.1)))), ((cell_far (p := ⟨gb1109, _, none⟩) NB1108_1109.out _).trans (((cell_far (p := ⟨gb1109, _, none⟩) NB1108_1109.out _).trans (hHeld.2.2.2))))⟩ (fun hHeld => ?_)
        clear hK K
        refine pure_ (i := 14) (N := some 5) (v := ?_) (a' := ?_) #[true, true, true, true, true, true, true, true, true, true, true, true, true, true, true] rfl rfl (any_of HT_.out (by kernel_rfl)) (fun _ _ _ h => h) (Or.inl ⟨by rfl, ?_⟩) ?_ ?_
        rotate_left
        · intro w'
          go_simp
          with_reducible rfl
        rotate_left
        · simp only [Act.put, List.setIfInBounds_toArray, List.set_cons_zero, List.set_cons_succ, i64_w, i32_w]
          rfl
        refine done_ (done_of HT_.out (by kernel_rfl)) ?_
        try go_wp2
        refine bodyPost_ret (results_ct rfl _ _ gb1109 23 #[.int .i64 t1113, .int .i64 t1114] (0, 0) _ rfl (by (with_reducible repeat (first | refine blk_drewN ?_ _ | refine blk_drew ?_ | refine blk_alloc ?_ _)); refine blk_put (cs := #[.int .i64 t1113, .int .i64 0]) ?_ 1 _ rfl; (with_reducible repeat (first | refine blk_drewN ?_ _ | refine blk_drew ?_ | refine blk_alloc ?_ _)); refine blk_put (cs := #[.int .i64 0, .int .i64 0]) ?_ 0 _ rfl; (with_reducible repeat (first | refine blk_drewN ?_ _ | refine blk_drew ?_ | refine blk_alloc ?_ _)); exact BK1109.out) Tryd.underlying23 rfl (by kernel_rfl)) rfl ?_
        exact ⟨by first | rfl | (simp [errW_none, errW_some] <;> rfl) | (simp [*, errW_none, errW_some] <;> rfl), (q3_ HB.out GE1107.out GE1108.out GE1109.out)⟩
def num_Div.j0 : Nat → Bool → Int → Int → Int → Int → Option (Int × Int × Int)
  | 0, _, _, _, _, _ => none
  | k + 1, x6, x1117000, x1117001, x1118000, x1118001 => if x6 = true then (some (0, 0, 2)) else (if x1118000 = 0 then (some (0, 0, 5)) else ((num_size.f x1118000).bind fun t1121 => ((num_times.f k x1117000 x1117001 (decide (x1118000 < 0)) (IntKind.u64.wrap (x1118001)) t1121).bind fun bt1122 => (some (bt1122.1, bt1122.2.1, bt1122.2.2)))))
def num_Div.f (k : Nat) (a0_0 : Int) (a0_1 : Int) (a1_0 : Int) (a1_1 : Int) : Option (Int × Int × Int) := (num_Valid.f k a0_0 a0_1).bind fun t1119 => (if t1119 = true then ((num_Valid.f k a1_0 a1_1).bind fun t1120 => (num_Div.j0 k (!t1120) a0_0 a0_1 a1_0 a1_1)) else (num_Div.j0 k true a0_0 a0_1 a1_0 a1_1))
theorem num_Div.mono_l : ∀ k, (∀ y0 y1 y2 y3 y4, LeO (num_Div.j0 k y0 y1 y2 y3 y4) (num_Div.j0 (k + 1) y0 y1 y2 y3 y4))
  | 0 => fun _ _ _ _ _ r h => by simp [num_Div.j0] at h
  | k + 1 => by
    have ih0 := num_Div.mono_l k
    · intro y0 y1 y2 y3 y4
      unfold num_Div.j0
      repeat' first
      | (with_reducible exact ih0 _ _ _ _ _)
      | (with_reducible exact num_Valid.mono _ _ _)
      | (with_reducible exact num_times.mono _ _ _ _ _ _)
      | (with_reducible exact LeO.refl _)
      | (with_reducible exact LeO.none _)
      | (with_reducible refine LeO.ite ?_ ?_)
      | (with_reducible refine LeO.bind ?_ (fun _ => ?_))
      | exact ih0 _ _ _ _ _
      | exact num_Valid.mono _ _ _
      | exact num_times.mono _ _ _ _ _ _
      | exact LeO.none _
      | refine LeO.ite ?_ ?_
      | refine LeO.bind ?_ (fun _ => ?_)
theorem num_Div.mono : ∀ a0 a1 a2 a3 k, LeO (num_Div.f k a0 a1 a2 a3) (num_Div.f (k + 1) a0 a1 a2 a3) := by
  intro a0 a1 a2 a3 k
  have ih0 := num_Div.mono_l k
  unfold num_Div.f
  repeat' first
      | (with_reducible exact ih0 _ _ _ _ _)
      | (with_reducible exact num_Valid.mono _ _ _)
      | (with_reducible exact num_times.mono _ _ _ _ _ _)
      | (with_reducible exact LeO.refl _)
      | (with_reducible exact LeO.none _)
      | (with_reducible refine LeO.ite ?_ ?_)
      | (with_reducible refine LeO.bind ?_ (fun _ => ?_))
      | exact ih0 _ _ _ _ _
      | exact num_Valid.mono _ _ _
      | exact num_times.mono _ _ _ _ _ _
      | exact LeO.none _
      | refine LeO.ite ?_ ?_
      | refine LeO.bind ?_ (fun _ => ?_)
def num_Div.T5 : Bool × List (List Nat × List Nat) := (true, [([], []), ([], []), ([1], [1]), ([2], [2]), ([], []), ([4], [4]), ([5], [5]), ([], []), ([7], [7]), ([8], [8]), ([0, 3, 6, 9, 9], [0, 3, 6, 9]), ([10], [10]), ([10], [10]), ([11, 10, 0, 1, 2, 3, 4, 5, 6, 7, 8, 9, 10, 11, 12], [11]), ([12, 13, 0, 1, 2, 3, 4, 5, 6, 7, 8, 9, 10, 11, 12, 13], [12])])
def num_Div.B5 : List Nat := [0, 0, 2, 6, 0, 16, 48, 0, 128, 384, 1023, 2047, 2047, 8191, 16383]
theorem num_Div.tab5 : rtab .any (opsOf Tryd.f55 5) = num_Div.T5 := by kernel_rfl
theorem num_Div.bits5 : waitsOk num_Div.T5.2 num_Div.B5 = true := by kernel_rfl
set_option maxHeartbeats 8000000 in
set_option maxRecDepth 100000 in
theorem num_Div.calls (k : Nat) (a0_0 : Int) (a0_1 : Int) (a1_0 : Int) (a1_1 : Int) (r1 : Int) (r2 : Int) (r3 : Int) (w : World) (h : num_Div.f k a0_0 a0_1 a1_0 a1_1 = some (r1, r2, r3)) :
    Calls Tryd.prog 55 #[.agg #[.int .i64 a0_0, .int .i64 a0_1], .agg #[.int .i64 a1_0, .int .i64 a1_1]] w fun e w' => e = .returned (.tuple #[.agg #[.int .i64 r1, .int .i64 r2], .int .i64 r3]) ∧ Below w.heap.size w w' := by
  have hu23 := Tryd.underlying23
  have HB := Aside0.mk (Below.refl w.heap.size w)
  have H : ((num_Valid.f k a0_0 a0_1).bind fun t1119 => (if t1119 = true then ((num_Valid.f k a1_0 a1_1).bind fun t1120 => (num_Div.j0 k (!t1120) a0_0 a0_1 a1_0 a1_1)) else (num_Div.j0 k true a0_0 a0_1 a1_0 a1_1))) = some (r1, r2, r3) := h
  clear h
  have HC3 := Aside0.mk H
  clear H
  go_enter Tryd.func55, Tryd.ntmps55
  go_upto_region 1 with (first | ((with_reducible refine gate_dst (N := 2) rfl ?_); refine qx_ 2 #[.int .i64 a0_0, .int .i64 a0_1] 23 ?hr ?_; (case hr => first | (go_simp; done) | (go_simp; rfl)); intro gb1116 hg w4 hbox hb; have n0_ := Aside0.mk (below_step (q0_ HB.out) hb); have n1_ := Aside0.mk (hbox); have n2_ := Aside0.mk (qs_ hg (q0_ HB.out) : w.heap.size ≤ gb1116); have n3_ := n2_; clear HB; have HB := n0_; have BK1116 := n1_; have GW1116 := n2_; have GE1116 := n3_; clear n0_ n1_ n2_ n3_; clear hb hbox hg) | ((with_reducible refine gate_dst (N := 3) rfl ?_); refine qx_ 3 #[.int .i64 a1_0, .int .i64 a1_1] 23 ?hr ?_; (case hr => first | (go_simp; done) | (go_simp; rfl)); intro gb1117 hg w5 hbox hb; have n0_ := Aside0.mk (qk_ BK1116.out hb); have n1_ := Aside0.mk (below_step (q1_ HB.out GE1116.out) hb); have n2_ := Aside0.mk (hbox); have n3_ := Aside0.mk (qs_ hg (q1_ HB.out GE1116.out) : w.heap.size ≤ gb1117); have n4_ := n3_; have n5_ := Aside0.mk (qn_ hg BK1116.out); have n6_ := Aside0.mk (Ne.symm (qn_ hg BK1116.out)); clear BK1116; clear HB; have BK1116 := n0_; have HB := n1_; have BK1117 := n2_; have GW1117 := n3_; have GE1117 := n4_; have NB1116_1117 := n5_; have NB1117_1116 := n6_; clear n0_ n1_ n2_ n3_ n4_ n5_ n6_; clear hb hbox hg) | ((with_reducible refine gate_dst (N := 4) rfl ?_); refine qx_ 4 #[.int .i64 0, .int .i64 0] 23 ?hr ?_; (case hr => first | (go_simp; done) | (go_simp; rfl)); intro gb1118 hg w6 hbox hb; have n0_ := Aside0.mk (qk_ BK1116.out hb); have n1_ := Aside0.mk (qk_ BK1117.out hb); have n2_ := Aside0.mk (below_step (q2_ HB.out GE1116.out GE1117.out) hb); have n3_ := Aside0.mk (hbox); have n4_ := Aside0.mk (qs_ hg (q2_ HB.out GE1116.out GE1117.out) : w.heap.size ≤ gb1118); have n5_ := n4_; have n6_ := Aside0.mk (qn_ hg BK1116.out); have n7_ := Aside0.mk (Ne.symm (qn_ hg BK1116.out)); have n8_ := Aside0.mk (qn_ hg BK1117.out); have n9_ := Aside0.mk (Ne.symm (qn_ hg BK1117.out)); clear BK1116; clear BK1117; clear HB; have BK1116 := n0_; have BK1117 := n1_; have HB := n2_; have BK1118 := n3_; have GW1118 := n4_; have GE1118 := n5_; have NB1116_1118 := n6_; have NB1118_1116 := n7_; have NB1117_1118 := n8_; have NB1118_1117 := n9_; clear n0_ n1_ n2_ n3_ n4_ n5_ n6_ n7_ n8_ n9_; clear hb hbox hg))
  (try simp only [Act.put, List.setIfInBounds_toArray, List.set_cons_zero, List.set_cons_succ])
  go_cut [6] (fun v6 wc => ∃ (kq : Nat) (x6_2 : Bool), v6 = .bool x6_2 ∧ Aside0 (num_Div.j0 kq x6_2 a0_0 a0_1 a1_0 a1_1 = some (r1, r2, r3)) ∧ Aside0 (kq ≤ k) ∧ Aside0 (wc.heap[gb1116]? = some (.cells #[.int .i64 a0_0, .int .i64 a0_1] 23 (0, 0))) ∧ Aside0 (wc.heap[gb1117]? = some (.cells #[.int .i64 a1_0, .int .i64 a1_1] 23 (0, 0))) ∧ Aside0 (wc.heap[gb1118]? = some (.cells #[.int .i64 0, .int .i64 0] 23 (0, 0))) ∧ Aside0 (Below w.heap.size w wc))
  case first =>
    have H := HC3.out
    clear HC3
    replace H := Option.bind_eq_some_iff.mp H
    obtain ⟨t1119, A70, H⟩ := H
    replace H : (if t1119 = true then ((num_Valid.f k a1_0 a1_1).bind fun t1120 => (num_Div.j0 k (!t1120) a0_0 a0_1 a1_0 a1_1)) else (num_Div.j0 k true a0_0 a0_1 a1_0 a1_1)) = some (r1, r2, r3) := H
    have A7 := Aside0.mk A70
    clear A70
    by_cases c8 : t1119 = true
    · subst c8
      have H1 : ((num_Valid.f k a1_0 a1_1).bind fun t1120 => (num_Div.j0 k (!t1120) a0_0 a0_1 a1_0 a1_1)) = some (r1, r2, r3) := by rw [if_pos rfl] at H; exact H
      clear H
      have H := H1
      clear H1
      replace H := Option.bind_eq_some_iff.mp H
      obtain ⟨t1120, A90, H⟩ := H
      replace H : (num_Div.j0 k (!t1120) a0_0 a0_1 a1_0 a1_1) = some (r1, r2, r3) := H
      have A9 := Aside0.mk A90
      clear A90
      have H' := Aside0.mk H
      clear H
      have hnb10 := NB1116_1117.out
      have hnc10 := NB1117_1116.out
      have hnb11 := NB1116_1118.out
      have hnc11 := NB1118_1116.out
      have hcz12_0 : w6.cell? ⟨gb1116, 0, none⟩ = some (.int .i64 a0_0) := (blk_cell BK1116.out 0).trans rfl
      have hcz12_1 : w6.cell? ⟨gb1116, 1, none⟩ = some (.int .i64 a0_1) := (blk_cell BK1116.out 1).trans rfl
      have hfz12_0 := blk_frozen BK1116.out 0
      have hfz12_1 := blk_frozen BK1116.out 1
      go_wp2_with (first | ((with_reducible refine gate_callee (f := 26) rfl ?_); refine goesL_ (some 8) rfl rfl Tryd.func26 (by kernel_rfl) rfl #[.agg #[.int .i64 a0_0, .int .i64 a0_1]] rfl qe_ ?_; (with_reducible refine (num_Valid.calls k a0_0 a0_1 true _ A7.out).mono ?_); rintro e w13 ⟨rfl, hb⟩; refine ⟨_, rfl, ?_⟩; have n0_ := Aside0.mk (qk_ BK1116.out hb); have n1_ := Aside0.mk (qk_ BK1117.out hb); have n2_ := Aside0.mk (qk_ BK1118.out hb); have n3_ := Aside0.mk (below_step (q3_ HB.out GE1116.out GE1117.out GE1118.out) hb); clear BK1116; clear BK1117; clear BK1118; clear HB; have BK1116 := n0_; have BK1117 := n1_; have BK1118 := n2_; have HB := n3_; clear n0_ n1_ n2_ n3_; (try clear hb); (try clear hb2); (try clear hk); (try clear hi); have hnb14 := NB1117_1118.out; have hnc14 := NB1118_1117.out; have hcz15_0 : w13.cell? ⟨gb1117, 0, none⟩ = some (.int .i64 a1_0) := (blk_cell BK1117.out 0).trans rfl; have hcz15_1 : w13.cell? ⟨gb1117, 1, none⟩ = some (.int .i64 a1_1) := (blk_cell BK1117.out 1).trans rfl; have hfz15_0 := blk_frozen BK1117.out 0; have hfz15_1 := blk_frozen BK1117.out 1) | (go_at_call 26; (with_reducible refine (num_Valid.calls k a1_0 a1_1 t1120 _ A9.out).mono ?_); rintro e w16 ⟨rfl, hb⟩; have n0_ := Aside0.mk (qk_ BK1116.out hb); have n1_ := Aside0.mk (qk_ BK1117.out hb); have n2_ := Aside0.mk (qk_ BK1118.out hb); have n3_ := Aside0.mk (below_step (q3_ HB.out GE1116.out GE1117.out GE1118.out) hb); clear BK1116; clear BK1117; clear BK1118; clear HB; have BK1116 := n0_; have BK1117 := n1_; have BK1118 := n2_; have HB := n3_; clear n0_ n1_ n2_ n3_; (try clear hb); (try clear hb2); (try clear hk); (try clear hi)))
      go_meet
      case rel => exact ⟨_, (!t1120), (by first | rfl | (simp; done) | (simp [*]; done)), H', ⟨by first | omega | exact Nat.le_refl _⟩, ⟨by (with_reducible repeat (first | refine blk_drewN ?_ _ | refine blk_drew ?_ | refine blk_alloc ?_ _)); exact BK1116.out⟩, ⟨by (with_reducible repeat (first | refine blk_drewN ?_ _ | refine blk_drew ?_ | refine blk_alloc ?_ _)); exact BK1117.out⟩, ⟨by (with_reducible repeat (first | refine blk_drewN ?_ _ | refine blk_drew ?_ | refine blk_alloc ?_ _)); exact BK1118.out⟩, ⟨(q3_ HB.out GE1116.out GE1117.out GE1118.out)⟩⟩
    · replace c8 := Bool.eq_false_iff.mpr c8
      subst c8
      have H1 : (num_Div.j0 k true a0_0 a0_1 a1_0 a1_1) = some (r1, r2, r3) := by rw [if_neg (show ¬ (false = true) by decide)] at H; exact H
      clear H
      have H := H1
      clear H1
      have H' := Aside0.mk H
      clear H
      have hnb17 := NB1116_1117.out
      have hnc17 := NB1117_1116.out
      have hnb18 := NB1116_1118.out
      have hnc18 := NB1118_1116.out
      have hcz19_0 : w6.cell? ⟨gb1116, 0, none⟩ = some (.int .i64 a0_0) := (blk_cell BK1116.out 0).trans rfl
      have hcz19_1 : w6.cell? ⟨gb1116, 1, none⟩ = some (.int .i64 a0_1) := (blk_cell BK1116.out 1).trans rfl
      have hfz19_0 := blk_frozen BK1116.out 0
      have hfz19_1 := blk_frozen BK1116.out 1
      go_wp2_with (first | ((with_reducible refine gate_callee (f := 26) rfl ?_); refine goesL_ (some 8) rfl rfl Tryd.func26 (by kernel_rfl) rfl #[.agg #[.int .i64 a0_0, .int .i64 a0_1]] rfl qe_ ?_; (with_reducible refine (num_Valid.calls k a0_0 a0_1 false _ A7.out).mono ?_); rintro e w20 ⟨rfl, hb⟩; refine ⟨_, rfl, ?_⟩; have n0_ := Aside0.mk (qk_ BK1116.out hb); have n1_ := Aside0.mk (qk_ BK1117.out hb); have n2_ := Aside0.mk (qk_ BK1118.out hb); have n3_ := Aside0.mk (below_step (q3_ HB.out GE1116.out GE1117.out GE1118.out) hb); clear BK1116; clear BK1117; clear BK1118; clear HB; have BK1116 := n0_; have BK1117 := n1_; have BK1118 := n2_; have HB := n3_; clear n0_ n1_ n2_ n3_; (try clear hb); (try clear hb2); (try clear hk); (try clear hi)))
      go_meet
      case rel => exact ⟨_, (true), (by first | rfl | (simp; done) | (simp [*]; done)), H', ⟨by first | omega | exact Nat.le_refl _⟩, ⟨by (with_reducible repeat (first | refine blk_drewN ?_ _ | refine blk_drew ?_ | refine blk_alloc ?_ _)); exact BK1116.out⟩, ⟨by (with_reducible repeat (first | refine blk_drewN ?_ _ | refine blk_drew ?_ | refine blk_alloc ?_ _)); exact BK1117.out⟩, ⟨by (with_reducible repeat (first | refine blk_drewN ?_ _ | refine blk_drew ?_ | refine blk_alloc ?_ _)); exact BK1118.out⟩, ⟨(q3_ HB.out GE1116.out GE1117.out GE1118.out)⟩⟩
  case rest =>
    clear HC3
    try clear c1
    try clear c2
    try clear p2
    try clear c5
    try clear c8
    try clear c10
    try clear c11
    try clear c14
    try clear c17
    try clear c18
    try clear hcz12_0
    try clear hcz12_1
    try clear hcz15_0
    try clear hcz15_1
    try clear hcz19_0
    try clear hcz19_1
    try clear hfz12_0
    try clear hfz12_1
    try clear hfz15_0
    try clear hfz15_1
    try clear hfz19_0
    try clear hfz19_1
    obtain ⟨kq, x6_2, rfl, HA, HJ2, BK1116, BK1117, BK1118, HB⟩ := hcut
    cases kq with
    | zero => exact absurd HA.out (by simp [num_Div.j0])
    | succ kj2 =>
      have H := HA.out
      clear HA
      simp only [num_Div.j0] at H
      by_cases c21 : x6_2 = true
      · subst c21
        have H1 : (some (0, 0, 2)) = some (r1, r2, r3) := by rw [if_pos rfl] at H; exact H
        clear H
        have H := H1
        clear H1
        simp only [Option.some.injEq, Prod.mk.injEq] at H
        obtain ⟨rfl, rfl, rfl⟩ := H
        have hnb22 := NB1118_1116.out
        have hnc22 := NB1116_1118.out
        have hnb23 := NB1118_1117.out
        have hnc23 := NB1117_1118.out
        have hcz24_0 : wc.cell? ⟨gb1118, 0, none⟩ = some (.int .i64 0) := (blk_cell BK1118.out 0).trans rfl
        have hcz24_1 : wc.cell? ⟨gb1118, 1, none⟩ = some (.int .i64 0) := (blk_cell BK1118.out 1).trans rfl
        have hfz24_0 := blk_frozen BK1118.out 0
        have hfz24_1 := blk_frozen BK1118.out 1
        go_wp2
        refine bodyPost_ret (results_ct rfl _ _ gb1118 23 #[.int .i64 0, .int .i64 0] (0, 0) _ rfl (by (with_reducible repeat (first | refine blk_drewN ?_ _ | refine blk_drew ?_ | refine blk_alloc ?_ _)); refine blk_put (cs := #[.int .i64 0, .int .i64 0]) ?_ 1 _ rfl; (with_reducible repeat (first | refine blk_drewN ?_ _ | refine blk_drew ?_ | refine blk_alloc ?_ _)); refine blk_put (cs := #[.int .i64 0, .int .i64 0]) ?_ 0 _ rfl; (with_reducible repeat (first | refine blk_drewN ?_ _ | refine blk_drew ?_ | refine blk_alloc ?_ _)); exact BK1118.out) Tryd.underlying23 rfl (by kernel_rfl)) rfl ?_
        exact ⟨by first | rfl | (simp [errW_none, errW_some] <;> rfl) | (simp [*, errW_none, errW_some] <;> rfl), (q3_ HB.out GE1116.out GE1117.out GE1118.out)⟩
      · replace c21 := Bool.eq_false_iff.mpr c21
        subst c21
        have H1 : (if a1_0 = 0 then (some (0, 0, 5)) else ((num_size.f a1_0).bind fun t1121 => ((num_times.f kj2 a0_0 a0_1 (decide (a1_0 < 0)) (IntKind.u64.wrap (a1_1)) t1121).bind fun bt1122 => (some (bt1122.1, bt1122.2.1, bt1122.2.2))))) = some (r1, r2, r3) := by rw [if_neg (show ¬ (false = true) by decide)] at H; exact H
        clear H
        have H := H1
        clear H1
        by_cases c25 : a1_0 = 0
        · rw [if_pos c25] at H
          have c25b0 : (a1_0 == 0) = true := beq_iff_eq.mpr c25
          have c25b1 : (a1_0 != 0) = false := bne_eq_false_iff_eq.mpr c25
          clear c25
          simp only [Option.some.injEq, Prod.mk.injEq] at H
          obtain ⟨rfl, rfl, rfl⟩ := H
          have hnb26 := NB1117_1116.out
          have hnc26 := NB1116_1117.out
          have hnb27 := NB1117_1118.out
          have hnc27 := NB1118_1117.out
          have hcz28_0 : wc.cell? ⟨gb1117, 0, none⟩ = some (.int .i64 a1_0) := (blk_cell BK1117.out 0).trans rfl
          have hcz28_1 : wc.cell? ⟨gb1117, 1, none⟩ = some (.int .i64 a1_1) := (blk_cell BK1117.out 1).trans rfl
          have hfz28_0 := blk_frozen BK1117.out 0
          have hfz28_1 := blk_frozen BK1117.out 1
          have hnb29 := NB1118_1116.out
          have hnc29 := NB1116_1118.out
          have hcz30_0 : wc.cell? ⟨gb1118, 0, none⟩ = some (.int .i64 0) := (blk_cell BK1118.out 0).trans rfl
          have hcz30_1 : wc.cell? ⟨gb1118, 1, none⟩ = some (.int .i64 0) := (blk_cell BK1118.out 1).trans rfl
          have hfz30_0 := blk_frozen BK1118.out 0
          have hfz30_1 := blk_frozen BK1118.out 1
          go_wp2
          refine bodyPost_ret (results_ct rfl _ _ gb1118 23 #[.int .i64 0, .int .i64 0] (0, 0) _ rfl (by (with_reducible repeat (first | refine blk_drewN ?_ _ | refine blk_drew ?_ | refine blk_alloc ?_ _)); refine blk_put (cs := #[.int .i64 0, .int .i64 0]) ?_ 1 _ rfl; (with_reducible repeat (first | refine blk_drewN ?_ _ | refine blk_drew ?_ | refine blk_alloc ?_ _)); refine blk_put (cs := #[.int .i64 0, .int .i64 0]) ?_ 0 _ rfl; (with_reducible repeat (first | refine blk_drewN ?_ _ | refine blk_drew ?_ | refine blk_alloc ?_ _)); exact BK1118.out) Tryd.underlying23 rfl (by kernel_rfl)) rfl ?_
          exact ⟨by first | rfl | (simp [errW_none, errW_some] <;> rfl) | (simp [*, errW_none, errW_some] <;> rfl), (q3_ HB.out GE1116.out GE1117.out GE1118.out)⟩
        · rw [if_neg c25] at H
          have c25b0 : (a1_0 == 0) = false := beq_eq_false_iff_ne.mpr c25
          have c25b1 : (a1_0 != 0) = true := bne_iff_ne.mpr c25
          replace H := Option.bind_eq_some_iff.mp H
          obtain ⟨t1121, A310, H⟩ := H
          replace H : ((num_times.f kj2 a0_0 a0_1 (decide (a1_0 < 0)) (IntKind.u64.wrap (a1_1)) t1121).bind fun bt1122 => (some (bt1122.1, bt1122.2.1, bt1122.2.2))) = some (r1, r2, r3) := H
          have A31 := Aside0.mk A310
          clear A310
          replace H := Option.bind_eq_some_iff.mp H
          obtain ⟨⟨t1122, t1123, t1124⟩, A320, H⟩ := H
          replace H : (some (t1122, t1123, t1124)) = some (r1, r2, r3) := H
          have A32 := Aside0.mk A320
          clear A320
          simp only [Option.some.injEq, Prod.mk.injEq] at H
          obtain ⟨rfl, rfl, rfl⟩ := H
          have hnb33 := NB1117_1116.out
          have hnc33 := NB1116_1117.out
          have hnb34 := NB1117_1118.out
          have hnc34 := NB1118_1117.out
          have hcz35_0 : wc.cell? ⟨gb1117, 0, none⟩ = some (.int .i64 a1_0) := (blk_cell BK1117.out 0).trans rfl
          have hcz35_1 : wc.cell? ⟨gb1117, 1, none⟩ = some (.int .i64 a1_1) := (blk_cell BK1117.out 1).trans rfl
          have hfz35_0 := blk_frozen BK1117.out 0
          have hfz35_1 := blk_frozen BK1117.out 1
          try go_wp2
          have n0_ := Aside0.mk (blk_drew BK1116.out)
          have n1_ := Aside0.mk (blk_drew BK1117.out)
          have n2_ := Aside0.mk (blk_drew BK1118.out)
          have n3_ := Aside0.mk (below_drew1 HB.out)
          clear BK1116
          clear BK1117
          clear BK1118
          clear HB
          have BK1116 := n0_
          have BK1117 := n1_
          have BK1118 := n2_
          have HB := n3_
          clear n0_ n1_ n2_ n3_
          refine start_ (n := 15) (S := fun w' => w'.cell? ⟨gb1116, 0, none⟩ = some (.int .i64 a0_0) ∧ w'.cell? ⟨gb1116, 1, none⟩ = some (.int .i64 a0_1) ∧ w'.cell? ⟨gb1117, 0, none⟩ = some (.int .i64 a1_0) ∧ w'.cell? ⟨gb1117, 1, none⟩ = some (.int .i64 a1_1)) (ds := []) #[false, false, false, false, false, false, false, false, false, false, false, false, false, false, false] (by kernel_rfl) rfl rfl ⟨(blk_cell BK1116.out 0).trans rfl, (blk_cell BK1116.out 1).trans rfl, (blk_cell BK1117.out 0).trans rfl, (blk_cell BK1117.out 1).trans rfl⟩ (fun hHeld => ?_); refine with_tabW num_Div.tab5 num_Div.bits5 (fun HT_ HW_ => ?_)
          generalize wc.drew = w36 at BK1116 BK1117 BK1118 HB hHeld ⊢
          refine pure_ (i := 1) (N := some 22) (v := ?_) (a' := ?_) #[false, true, false, false, false, false, false, false, false, false, false, false, false, false, false] rfl rfl (any_of HT_.out (by kernel_rfl)) (fun _ _ _ h => h) (Or.inl ⟨by rfl, ?_⟩) ?_ ?_
          rotate_left
          · intro w'
            go_simp
            with_reducible rfl
          rotate_left
          · simp only [Act.put, List.setIfInBounds_toArray, List.set_cons_zero, List.set_cons_succ, i64_w, i32_w]
            rfl
          refine pure_ (i := 4) (N := some 25) (v := ?_) (a' := ?_) #[false, true, false, false, true, false, false, false, false, false, false, false, false, false, false] rfl rfl (any_of HT_.out (by kernel_rfl)) (fun _ _ _ h => h) (Or.inl ⟨by rfl, ?_⟩) ?_ ?_
          rotate_left
          · intro w'
            go_simp
            with_reducible rfl
          rotate_left
          · simp only [Act.put, List.setIfInBounds_toArray, List.set_cons_zero, List.set_cons_succ, i64_w, i32_w]
            rfl
          refine pure_ (i := 7) (N := some 28) (v := ?_) (a' := ?_) #[false, true, false, false, true, false, false, true, false, false, false, false, false, false, false] rfl rfl (any_of HT_.out (by kernel_rfl)) (fun _ _ _ h => h) (Or.inl ⟨by rfl, ?_⟩) ?_ ?_
          rotate_left
          · intro w'
            go_simp
            with_reducible rfl
          rotate_left
          · simp only [Act.put, List.setIfInBounds_toArray, List.set_cons_zero, List.set_cons_succ, i64_w, i32_w]
            rfl
          refine take_ (i := 0) (N := some 21) (v := ?_) (a' := ?_) #[true, true, false, false, true, false, false, true, false, false, false, false, false, false, false] rfl rfl (take_ofW HT_.out HW_.out (by kernel_rfl)) (fun _ _ _ h => h) (Or.inl ⟨by rfl, ?_⟩) hHeld ?_ ?_
          rotate_left
          · rintro w' ⟨s0, s1, s2, s3⟩
            go_simp
            with_reducible rfl
          rotate_left
          · simp only [Act.put, List.setIfInBounds_toArray, List.set_cons_zero, List.set_cons_succ, i64_w, i32_w]
            rfl
          refine take_ (i := 2) (N := some 23) (v := ?_) (a' := ?_) #[true, true, true, false, true, false, false, true, false, false, false, false, false, false, false] rfl rfl (take_ofW HT_.out HW_.out (by kernel_rfl)) (fun _ _ _ h => h) (Or.inl ⟨by rfl, ?_⟩) hHeld ?_ ?_
          rotate_left
          · rintro w' ⟨s0, s1, s2, s3⟩
            go_simp
            with_reducible rfl
          rotate_left
          · simp only [Act.put, List.setIfInBounds_toArray, List.set_cons_zero, List.set_cons_succ, i64_w, i32_w]
            rfl
          refine pure_ (i := 3) (N := some 24) (v := ?_) (a' := ?_) #[true, true, true, true, true, false, false, true, false, false, false, false, false, false, false] rfl rfl (any_of HT_.out (by kernel_rfl)) (fun _ _ _ h => h) (Or.inl ⟨by rfl, ?_⟩) ?_ ?_
          rotate_left
          · intro w'
            go_simp
            with_reducible rfl
          rotate_left
          · simp only [Act.put, List.setIfInBounds_toArray, List.set_cons_zero, List.set_cons_succ, i64_w, i32_w]
            rfl
          refine take_ (i := 5) (N := some 26) (v := ?_) (a' := ?_) #[true, true, true, true, true, true, false, true, false, false, false, false, false, false, false] rfl rfl (take_ofW HT_.out HW_.out (by kernel_rfl)) (fun _ _ _ h => h) (Or.inl ⟨by rfl, ?_⟩) hHeld ?_ ?_
          rotate_left
          · rintro w' ⟨s0, s1, s2, s3⟩
            go_simp
            with_reducible rfl
          rotate_left
          · simp only [Act.put, List.setIfInBounds_toArray, List.set_cons_zero, List.set_cons_succ, i64_w, i32_w]
            rfl
          refine pure_ (i := 6) (N := some 27) (v := ?_) (a' := ?_) #[true, true, true, true, true, true, true, true, false, false, false, false, false, false, false] rfl rfl (any_of HT_.out (by kernel_rfl)) (fun _ _ _ h => h) (Or.inl ⟨by rfl, ?_⟩) ?_ ?_
          rotate_left
          · intro w'
            go_simp
            with_reducible rfl
          rotate_left
          · simp only [Act.put, List.setIfInBounds_toArray, List.set_cons_zero, List.set_cons_succ, i64_w, i32_w]
            rfl
          refine take_ (i := 8) (N := some 29) (v := ?_) (a' := ?_) #[true, true, true, true, true, true, true, true, true, false, false, false, false, false, false] rfl rfl (take_ofW HT_.out HW_.out (by kernel_rfl)) (fun _ _ _ h => h) (Or.inl ⟨by rfl, ?_⟩) hHeld ?_ ?_
          rotate_left
          · rintro w' ⟨s0, s1, s2, s3⟩
            go_simp
            with_reducible rfl
          rotate_left
          · simp only [Act.put, List.setIfInBounds_toArray, List.set_cons_zero, List.set_cons_succ, i64_w, i32_w]
            rfl
          refine one_ (i := 9) (N := some 30) #[true, true, true, true, true, true, true, true, true, true, false, false, false, false, false] rfl rfl (one_of HT_.out (by kernel_rfl)) (by decide) (fun K hK => ?_)
          refine goes_ Tryd.func78 (by kernel_rfl) rfl #[.int .i64 a1_0] (by rfl) rfl rfl qe_ ?_
          with_reducible refine (num_size.calls a1_0 t1121 _ A31.out).mono ?_
          rintro e w' ⟨rfl, ⟨nd, rfl⟩⟩
          refine ⟨_, rfl, ?_⟩
          refine hK.out _ _ ⟨(blk_cell BK1116.out 0).trans rfl, (blk_cell BK1116.out 1).trans rfl, (blk_cell BK1117.out 0).trans rfl, (blk_cell BK1117.out 1).trans rfl⟩ (fun hHeld => ?_)
          clear hK K
          refine norm_ (a' := ?_) ?_ ?_
          rotate_left
          · show Act.put _ (some 30) _ = _
            simp only [Act.put, List.setIfInBounds_toArray, List.set_cons_zero, List.set_cons_succ, i64_w, i32_w]
            rfl
          refine one_ (i := 10) (N := some 31) #[true, true, true, true, true, true, true, true, true, true, true, false, false, false, false] rfl rfl (one_of HT_.out (by kernel_rfl)) (by decide) (fun K hK => ?_)
          refine goes_ Tryd.func100 (by kernel_rfl) rfl #[.agg #[.int .i64 a0_0, .int .i64 a0_1], .bool (decide (a1_0 < 0)), .int .u64 (IntKind.u64.wrap (a1_1)), .int .u64 t1121] (by rfl) rfl rfl qe_ ?_
          with_reducible refine (num_times.calls kj2 a0_0 a0_1 (decide (a1_0 < 0)) (IntKind.u64.wrap (a1_1)) t1121 t1122 t1123 t1124 _ A32.out).mono ?_
          rintro e w37 ⟨rfl, hb⟩
          refine ⟨_, rfl, ?_⟩
          have n0_ := Aside0.mk (qk_ BK1116.out hb)
          have n1_ := Aside0.mk (qk_ BK1117.out hb)
          have n2_ := Aside0.mk (qk_ BK1118.out hb)
          have n3_ := Aside0.mk (below_step (q3_ HB.out GE1116.out GE1117.out GE1118.out) hb)
          clear BK1116
          clear BK1117
          clear BK1118
          clear HB
          have BK1116 := n0_
          have BK1117 := n1_
          have BK1118 := n2_
          have HB := n3_
          clear n0_ n1_ n2_ n3_
          (try clear hb)
          (try clear hb2)
          (try clear hk)
          (try clear hi)
          refine hK.out _ _ ⟨(blk_cell BK1116.out 0).trans rfl, (blk_cell BK1116.out 1).trans rfl, (blk_cell BK1117.out 0).trans rfl, (blk_cell BK1117.out 1).trans rfl⟩ (fun hHeld => ?_)
          clear hK K
          refine norm_ (a' := ?_) ?_ ?_
          rotate_left
          · show Act.put _ (some 31) _ = _
            simp only [Act.put, List.setIfInBounds_toArray, List.set_cons_zero, List.set_cons_succ, i64_w, i32_w]
            rfl
          refine pure_ (i := 11) (N := some 32) (v := ?_) (a' := ?_) #[true, true, true, true, true, true, true, true, true, true, true, true, false, false, false] rfl rfl (any_of HT_.out (by kernel_rfl)) (fun _ _ _ h => h) (Or.inl ⟨by rfl, ?_⟩) ?_ ?_
          rotate_left
          · intro w'
            go_simp
            with_reducible rfl
          rotate_left
          · simp only [Act.put, List.setIfInBounds_toArray, List.set_cons_zero, List.set_cons_succ, i64_w, i32_w]
            rfl
          refine pure_ (i := 12) (N := some 33) (v := ?_) (a' := ?_) #[true, true, true, true, true, true, true, true, true, true, true, true, true, false, false] rfl rfl (any_of HT_.out (by kernel_rfl)) (fun _ _ _ h => h) (Or.inl ⟨by rfl, ?_⟩) ?_ ?_
          rotate_left
          · intro w'
            go_simp
            with_reducible rfl
          rotate_left
          · simp only [Act.put, List.setIfInBounds_toArray, List.set_cons_zero, List.set_cons_succ, i64_w, i32_w]
            rfl
          refine one_ (i := 13) (N := none) #[true, true, true, true, true, true, true, true, true, true, true, true, true, true, false] rfl rfl (one_of HT_.out (by kernel_rfl)) (by decide) (fun K hK => ?_)
          have hs38 : w37.cell? ⟨gb1118, 0, none⟩ = some (.int .i64 0) := (blk_cell BK1118.out 0).trans rfl
          have hfs38 := blk_frozen BK1118.out 0
          have hns38_0 := NB1116_1118.out
          have hns38_1 := NB1117_1118.out
          have hms38_0 := NB1118_1116.out
          have hms38_1 := NB1118_1117.out
          have hs39 : w37.cell? ⟨gb1118, 1, none⟩ = some (.int .i64 0) := (blk_cell BK1118.out 1).trans rfl
          have hfs39 := blk_frozen BK1118.out 1
          have hns39_0 := NB1116_1118.out
          have hns39_1 := NB1117_1118.out
          have hms39_0 := NB1118_1116.out
          have hms39_1 := NB1118_1117.out
          refine skip_ (w1 := ?_) (by rfl) rfl ?_ ?_
          rotate_left
          · go_simp
            rfl
          refine hK.out _ _ ⟨((cell_far (p := ⟨gb1118, _, none⟩) NB1116_1118.out _).trans (((cell_far (p := ⟨gb1118, _, none⟩) NB1116_1118.out _).trans (hHeld.1)))), ((cell_far (p := ⟨gb1118, _, none⟩) NB1116_1118.out _).trans (((cell_far (p := ⟨gb1118, _, none⟩) NB1116_1118.out _).trans (hHeld.2.1)))), ((cell_far (p := ⟨gb1118, _, none⟩) NB1117_1118.out _).trans (((cell_far (p := ⟨gb1118, _, none⟩) NB1117_1118.out _).trans (hHeld.2.2.1)))), ((cell_far (p := ⟨gb1118, _, none⟩) NB1117_1118.out _).trans (((cell_far (p := ⟨gb1118, _, none⟩) NB1117_1118.out _).trans (hHeld.2.2.2))))⟩ (fun hHeld => ?_)
          clear hK K
          refine pure_ (i := 14) (N := some 5) (v := ?_) (a' := ?_) #[true, true, true, true, true, true, true, true, true, true, true, true, true, true, true] rfl rfl (any_of HT_.out (by kernel_rfl)) (fun _ _ _ h => h) (Or.inl ⟨by rfl, ?_⟩) ?_ ?_
          rotate_left
          · intro w'
            go_simp
            with_reducible rfl
          rotate_left
          · simp only [Act.put, List.setIfInBounds_toArray, List.set_cons_zero, List.set_cons_succ, i64_w, i32_w]
            rfl
          refine done_ (done_of HT_.out (by kernel_rfl)) ?_
          try go_wp2
          refine bodyPost_ret (results_ct rfl _ _ gb1118 23 #[.int .i64 t1122, .int .i64 t1123] (0, 0) _ rfl (by (with_reducible repeat (first | refine blk_drewN ?_ _ | refine blk_drew ?_ | refine blk_alloc ?_ _)); refine blk_put (cs := #[.int .i64 t1122, .int .i64 0]) ?_ 1 _ rfl; (with_reducible repeat (first | refine blk_drewN ?_ _ | refine blk_drew ?_ | refine blk_alloc ?_ _)); refine blk_put (cs := #[.int .i64 0, .int .i64 0]) ?_ 0 _ rfl; (with_reducible repeat (first | refine blk_drewN ?_ _ | refine blk_drew ?_ | refine blk_alloc ?_ _)); exact BK1118.out) Tryd.underlying23 rfl (by kernel_rfl)) rfl ?_
          exact ⟨by first | rfl | (simp [errW_none, errW_some] <;> rfl) | (simp [*, errW_none, errW_some] <;> rfl), (q3_ HB.out GE1116.out GE1117.out GE1118.out)⟩
end Go.Proofs.YtdjnneflpkllmaaDoor.Q

namespace Go.Proofs.YtdjnneflpkllmaaDoor.Q
open Go.RowKit Go.Proofs.YtdjnneflpkllmaaDoorW.PrintWords Go.Proofs.YtdjnneflpkllmaaDoorW.PrintLast Go.Proofs.YtdjnneflpkllmaaDoorW.PrintMore
attribute [local go_sem] max2_int min2_int max_two min_two max_three min_three max_four min_four   -- for this text's walks alone
set_option linter.unusedVariables false
set_option linter.unusedSimpArgs false
def merinolaw01_arith.f (k : Nat) (a0 : Int) (a1_0 : Int) (a1_1 : Int) (a2_0 : Int) (a2_1 : Int) : Option (Int × Int × Int) := if a0 = 0 then ((num_Add.f k a1_0 a1_1 a2_0 a2_1).bind fun bt1328 => (some (bt1328.1, bt1328.2.1, bt1328.2.2))) else (if a0 = 1 then ((num_Sub.f k a1_0 a1_1 a2_0 a2_1).bind fun bt1331 => (some (bt1331.1, bt1331.2.1, bt1331.2.2))) else (if a0 = 2 then ((num_Mul.f k a1_0 a1_1 a2_0 a2_1).bind fun bt1334 => (some (bt1334.1, bt1334.2.1, bt1334.2.2))) else ((num_Div.f k a1_0 a1_1 a2_0 a2_1).bind fun bt1337 => (some (bt1337.1, bt1337.2.1, bt1337.2.2)))))
theorem merinolaw01_arith.mono : ∀ a0 a1 a2 a3 a4 k, LeO (merinolaw01_arith.f k a0 a1 a2 a3 a4) (merinolaw01_arith.f (k + 1) a0 a1 a2 a3 a4) := by
  intro a0 a1 a2 a3 a4 k
  unfold merinolaw01_arith.f
  repeat' first
      | (with_reducible exact num_Add.mono _ _ _ _ _)
      | (with_reducible exact num_Div.mono _ _ _ _ _)
      | (with_reducible exact num_Mul.mono _ _ _ _ _)
      | (with_reducible exact num_Sub.mono _ _ _ _ _)
      | (with_reducible exact LeO.refl _)
      | (with_reducible exact LeO.none _)
      | (with_reducible refine LeO.ite ?_ ?_)
      | (with_reducible refine LeO.bind ?_ (fun _ => ?_))
      | exact num_Add.mono _ _ _ _ _
      | exact num_Div.mono _ _ _ _ _
      | exact num_Mul.mono _ _ _ _ _
      | exact num_Sub.mono _ _ _ _ _
      | exact LeO.none _
      | refine LeO.ite ?_ ?_
      | refine LeO.bind ?_ (fun _ => ?_)
end Go.Proofs.YtdjnneflpkllmaaDoor.Q

namespace Go.Proofs.YtdjnneflpkllmaaDoor.Q
open Go.RowKit Go.Proofs.YtdjnneflpkllmaaDoorW.PrintWords Go.Proofs.YtdjnneflpkllmaaDoorW.PrintLast Go.Proofs.YtdjnneflpkllmaaDoorW.PrintMore
attribute [local go_sem] max2_int min2_int max_two min_two max_three min_three max_four min_four   -- for this text's walks alone
set_option linter.unusedVariables false
set_option linter.unusedSimpArgs false
def merinoref01_Opposite.f (k : Nat) (a0_0 : Int) (a0_1 : Int) : Option (Int × Int × Int) := (merinoref01_Valid.f k a0_0 a0_1).bind fun t1347 => (if t1347 = true then (some (wrap64 (-a0_0), a0_1, 0)) else (some (0, 0, 2)))
theorem merinoref01_Opposite.mono : ∀ a0 a1 k, LeO (merinoref01_Opposite.f k a0 a1) (merinoref01_Opposite.f (k + 1) a0 a1) := by
  intro a0 a1 k
  unfold merinoref01_Opposite.f
  repeat' first
      | (with_reducible exact merinoref01_Valid.mono _ _ _)
      | (with_reducible exact LeO.refl _)
      | (with_reducible exact LeO.none _)
      | (with_reducible refine LeO.ite ?_ ?_)
      | (with_reducible refine LeO.bind ?_ (fun _ => ?_))
      | exact merinoref01_Valid.mono _ _ _
      | exact LeO.none _
      | refine LeO.ite ?_ ?_
      | refine LeO.bind ?_ (fun _ => ?_)
end Go.Proofs.YtdjnneflpkllmaaDoor.Q

namespace Go.Proofs.Num
open Go.RowKit Go.Proofs.YtdjnneflpkllmaaDoorW.PrintWords Go.Proofs.YtdjnneflpkllmaaDoorW.PrintMore Go.Proofs.YtdjnneflpkllmaaDoor.Q
set_option linter.unusedVariables false
set_option linter.unusedSimpArgs false
/-- made: lowest of a number whose size and sign are given. -/
theorem made_ok {neg : Bool} {n d : Nat} {x : Int} (hn : n < 18446744073709551616) (hd : 0 < d) (hd2 : d < 18446744073709551616) (hx : x.natAbs = n) (hs : n ≠ 0 → neg = decide (x < 0)) : Ev (fun k => num_made.f k neg (n : Int) (d : Int)) (lowest x (d : Int)) := by
  unfold num_made.f
  refine Ev.bind (gcd_ok n d) ?_
  have hg : 0 < Nat.gcd n d := Nat.gcd_pos_of_pos_right _ hd
  have key : lowest x (d : Int) = if (n : Int) / (Nat.gcd n d : Nat) ≤ 1099511627776 ∧ (d : Int) / (Nat.gcd n d : Nat) ≤ 1048576 then ((if x < 0 then -((n : Int) / (Nat.gcd n d : Nat)) else (n : Int) / (Nat.gcd n d : Nat)), (d : Int) / (Nat.gcd n d : Nat), 0) else (0, 0, 4) := by
    unfold lowest
    simp only [hx, Int.natAbs_natCast]
  rw [key]
  clear key
  generalize hG : ((Nat.gcd n d : Nat) : Int) = G at *
  have G0 : 0 < G := by omega
  have q0 : 0 ≤ (n : Int) / G := Int.ediv_nonneg (by omega) (by omega)
  have q1 : (n : Int) / G ≤ n := Int.ediv_le_self _ (by omega)
  have p0 : 0 ≤ (d : Int) / G := Int.ediv_nonneg (by omega) (by omega)
  have p1 : (d : Int) / G ≤ d := Int.ediv_le_self _ (by omega)
  have z : n = 0 → (n : Int) / G = 0 := fun h => by rw [h]; simp
  have t1 : (n : Int).tdiv G = (n : Int) / G := Int.tdiv_eq_ediv_of_nonneg (by omega)
  have t2 : (d : Int).tdiv G = (d : Int) / G := Int.tdiv_eq_ediv_of_nonneg (by omega)
  simp only [if_neg (show ¬ G = 0 by omega), t1, t2, wu (x := (n : Int) / G) (by omega) (by omega), wu (x := (d : Int) / G) (by omega) (by omega)]
  clear t1 t2
  generalize (n : Int) / G = P at *
  generalize (d : Int) / G = Q at *
  have bad : ∀ neg : Bool, Ev (fun k => num_made.j0 k neg P Q true) (0, 0, 4) := fun neg => Ev.step (f := fun _ => some (0, 0, 4)) (fun k => by rw [num_made.j0, if_pos rfl]) (Ev.now _)
  by_cases c1 : P ≤ 1099511627776
  · by_cases c2 : Q ≤ 1048576
    · simp only [if_neg (show ¬ P > 1099511627776 by omega), decide_eq_false (show ¬ Q > 1048576 by omega)]
      rw [if_pos ⟨c1, c2⟩]
      have hs' : (if neg = true then -P else P) = (if x < 0 then -P else P) := by
        by_cases n00 : n = 0
        · rw [z n00]; simp
        · rw [hs n00]
          by_cases a : x < 0
          · rw [decide_eq_true a, if_pos a]; rfl
          · rw [decide_eq_false a, if_neg a]; rfl
      rw [← hs']
      refine Ev.step (f := fun _ => some ((if neg = true then -P else P), Q, 0)) (fun k => ?_) (Ev.now _)
      rw [num_made.j0, if_neg (by decide), w64 (x := P) (by omega) (by omega), w64 (x := Q) (by omega) (by omega), w64 (x := -P) (by omega) (by omega)]
      split <;> rfl
    · simp only [if_neg (show ¬ P > 1099511627776 by omega), decide_eq_true (show Q > 1048576 by omega)]
      rw [if_neg (fun h => c2 h.2)]
      exact bad _
  · simp only [if_pos (show P > 1099511627776 by omega)]
    rw [if_neg (fun h => c1 h.1)]
    exact bad _
/-- What both operands' common factor adds is cancelled. -/
theorem lowest_scale {c x y : Int} (hc : 0 < c) (hy : 0 < y) : lowest (c * x) (c * y) = lowest x y := by
  have e : ((Nat.gcd (c * x).natAbs (c * y).natAbs : Nat) : Int) = c * (Nat.gcd x.natAbs y.natAbs : Nat) := by
    rw [Int.natAbs_mul, Int.natAbs_mul, Nat.gcd_mul_left, Int.natCast_mul, Int.natAbs_of_nonneg (Int.le_of_lt hc)]
  have a : ((c * x).natAbs : Int) = c * x.natAbs := by rw [Int.natAbs_mul, Int.natCast_mul, Int.natAbs_of_nonneg (Int.le_of_lt hc)]
  have s : c * x < 0 ↔ x < 0 := by
    constructor
    · intro h
      apply Classical.byContradiction
      intro g
      have := Int.mul_nonneg (Int.le_of_lt hc) (show 0 ≤ x by omega)
      omega
    · intro h
      exact Int.mul_neg_of_pos_of_neg hc h
  unfold lowest
  simp only [e, a, s, Int.mul_ediv_mul_of_pos _ _ hc]
theorem lowest_zero {y : Int} (hy : 0 < y) : lowest 0 y = (0, 1, 0) := by
  unfold lowest
  have e : ((Nat.gcd (0 : Int).natAbs y.natAbs : Nat) : Int) = y := by simp; omega
  simp only [e, Int.ediv_self (show y ≠ 0 by omega)]
  simp
/-- In lowest terms already, and too great. -/
theorem lowest_big {x y : Int} (hc : Nat.gcd x.natAbs y.natAbs = 1) (h : 1099511627776 < (x.natAbs : Int) ∨ 1048576 < y) : lowest x y = (0, 0, 4) := by
  unfold lowest
  simp only [hc, Int.natCast_one, Int.ediv_one]
  rw [if_neg]
  omega
/-- times: a fraction multiplied by a sign and n/d in lowest terms. -/
theorem ntimes_ok {a0 a1 : Int} (va : valid a0 a1) {neg : Bool} {n d : Nat} {x : Int} (hn : n ≤ 1099511627776) (hd : 0 < d) (hd2 : d ≤ 1099511627776) (hc : Nat.gcd n d = 1) (hx : x.natAbs = n) (hs : n ≠ 0 → neg = decide (x < 0)) :
    Ev (fun k => num_times.f k a0 a1 neg (n : Int) (d : Int)) (lowest (a0 * x) (a1 * d)) := by
  obtain ⟨v1, v2, v3, v4, v5⟩ := va
  obtain ⟨e, rfl⟩ := Int.eq_ofNat_of_zero_le (show 0 ≤ a1 by omega)
  obtain ⟨m, hm⟩ : ∃ m, m = a0.natAbs := ⟨_, rfl⟩
  have co : Nat.gcd m e = 1 := by rw [hm]; simpa using v5
  unfold num_times.f
  simp only [size_ok (a := a0) (by omega) (by omega), Option.bind_some, ← hm, wu (x := (e : Int)) (by omega) (by omega)]
  refine Ev.bind (gcd_ok m d) ?_
  refine Ev.bind (gcd_ok n e) ?_
  have hg : 0 < Nat.gcd m d := Nat.gcd_pos_of_pos_right _ hd
  have hh : 0 < Nat.gcd n e := Nat.gcd_pos_of_pos_right _ (by omega)
  obtain ⟨m', em⟩ := Nat.gcd_dvd_left m d
  obtain ⟨d', ed⟩ := Nat.gcd_dvd_right m d
  obtain ⟨n', en⟩ := Nat.gcd_dvd_left n e
  obtain ⟨e', ee⟩ := Nat.gcd_dvd_right n e
  have c1 : Nat.gcd m' d' = 1 := by
    have h := Nat.coprime_div_gcd_div_gcd hg
    rw [Nat.div_eq_of_eq_mul_right hg em, Nat.div_eq_of_eq_mul_right hg ed] at h
    exact h
  have c2 : Nat.gcd n' e' = 1 := by
    have h := Nat.coprime_div_gcd_div_gcd hh
    rw [Nat.div_eq_of_eq_mul_right hh en, Nat.div_eq_of_eq_mul_right hh ee] at h
    exact h
  generalize hG : Nat.gcd m d = g at *
  generalize hH : Nat.gcd n e = h at *
  have dm : m' ∣ m := ⟨g, by rw [em]; exact Nat.mul_comm _ _⟩
  have dd : d' ∣ d := ⟨g, by rw [ed]; exact Nat.mul_comm _ _⟩
  have dn : n' ∣ n := ⟨h, by rw [en]; exact Nat.mul_comm _ _⟩
  have de : e' ∣ e := ⟨h, by rw [ee]; exact Nat.mul_comm _ _⟩
  have c3 : Nat.gcd m' e' = 1 := Nat.Coprime.coprime_dvd_left dm (Nat.Coprime.coprime_dvd_right de co)
  have c4 : Nat.gcd n' d' = 1 := Nat.Coprime.coprime_dvd_left dn (Nat.Coprime.coprime_dvd_right dd hc)
  have cc : Nat.gcd (m' * n') (e' * d') = 1 := Nat.Coprime.mul_left (Nat.Coprime.mul_right c3 c1) (Nat.Coprime.mul_right c2 c4)
  have lm : m' ≤ m := by rw [em]; exact Nat.le_mul_of_pos_left _ hg
  have ld : d' ≤ d := by rw [ed]; exact Nat.le_mul_of_pos_left _ hg
  have ln : n' ≤ n := by rw [en]; exact Nat.le_mul_of_pos_left _ hh
  have le : e' ≤ e := by rw [ee]; exact Nat.le_mul_of_pos_left _ hh
  have d0 : 0 < d' := Nat.pos_of_ne_zero fun h0 => by rw [h0, Nat.mul_zero] at ed; omega
  have e0 : 0 < e' := Nat.pos_of_ne_zero fun h0 => by rw [h0, Nat.mul_zero] at ee; omega
  have q : ∀ {a b c : Nat}, 0 < b → a = b * c → (a : Int).tdiv (b : Int) = (c : Int) := fun hb h => by
    rw [Int.tdiv_eq_ediv_of_nonneg (by omega), ← Int.natCast_ediv, Nat.div_eq_of_eq_mul_right hb h]
  simp only [if_neg (show ¬ ((g : Nat) : Int) = 0 by omega), if_neg (show ¬ ((h : Nat) : Int) = 0 by omega), q hg em, q hh en, q hh ee, q hg ed,
    wu (x := (m' : Int)) (by omega) (by omega), wu (x := (n' : Int)) (by omega) (by omega), wu (x := (e' : Int)) (by omega) (by omega), wu (x := (d' : Int)) (by omega) (by omega),
    mul64_ok (x := (m' : Int)) (y := (n' : Int)) (by omega) (by omega) (by omega) (by omega), mul64_ok (x := (e' : Int)) (y := (d' : Int)) (by omega) (by omega) (by omega) (by omega), Option.bind_some]
  -- the number: its sign and the sizes that are left
  obtain ⟨N, hN⟩ : ∃ N, N = m' * n' := ⟨_, rfl⟩
  obtain ⟨D, hD⟩ : ∃ D, D = e' * d' := ⟨_, rfl⟩
  have D0 : 0 < D := by rw [hD]; exact Nat.mul_pos e0 d0
  obtain ⟨y, hy⟩ : ∃ y : Int, y = if a0 * x < 0 then -(N : Int) else N := ⟨_, rfl⟩
  have yN : y.natAbs = N := by rw [hy]; split <;> omega
  have prod : (a0 * x).natAbs = (g * h) * N := by rw [Int.natAbs_mul, ← hm, hx, hN, em, en]; exact (by grind)
  have ex : a0 * x = ((g * h : Nat) : Int) * y := by
    have p2 : ((a0 * x).natAbs : Int) = ((g * h : Nat) : Int) * (N : Int) := by rw [prod, Int.natCast_mul]
    rw [hy]
    split
    · rw [Int.mul_neg, ← p2]; omega
    · rw [← p2]; omega
  have ey : (e : Int) * (d : Int) = ((g * h : Nat) : Int) * (D : Int) := by
    rw [← Int.natCast_mul, ← Int.natCast_mul]
    congr 1
    rw [hD, ee, ed]
    grind
  have L : lowest (a0 * x) ((e : Int) * (d : Int)) = lowest y (D : Int) := by
    rw [ey, ex]
    exact lowest_scale (by have := Nat.mul_pos hg hh; omega) (by omega)
  rw [L]
  have eN : (m' : Int) * (n' : Int) = (N : Int) := by rw [hN, Int.natCast_mul]
  have eD : (e' : Int) * (d' : Int) = (D : Int) := by rw [hD, Int.natCast_mul]
  simp only [eN, eD]
  have hcN : Nat.gcd y.natAbs (D : Int).natAbs = 1 := by rw [yN, Int.natAbs_natCast, hN, hD]; exact cc
  have sg : N ≠ 0 → (decide (a0 < 0) != neg) = decide (y < 0) := fun h0 => by
    have m0 : m' ≠ 0 := fun h1 => h0 (by rw [hN, h1, Nat.zero_mul])
    have n0 : n' ≠ 0 := fun h1 => h0 (by rw [hN, h1, Nat.mul_zero])
    have a00 : a0 ≠ 0 := fun h1 => m0 (by rw [h1] at hm; have : m = 0 := by rw [hm]; rfl
                                          omega)
    have n00 : n ≠ 0 := fun h1 => n0 (by omega)
    have x00 : x ≠ 0 := fun h1 => n00 (by rw [← hx, h1]; rfl)
    rw [hs n00]
    have hyx : y < 0 ↔ a0 * x < 0 := by rw [hy]; split <;> omega
    rw [decide_eq_decide.mpr hyx]
    by_cases p1 : a0 < 0 <;> by_cases p2 : x < 0
    · have := Int.mul_pos_of_neg_of_neg p1 p2
      rw [decide_eq_true p1, decide_eq_true p2, decide_eq_false (show ¬ a0 * x < 0 by omega)]; rfl
    · have := Int.mul_neg_of_neg_of_pos p1 (show 0 < x by omega)
      rw [decide_eq_true p1, decide_eq_false p2, decide_eq_true this]; rfl
    · have := Int.mul_neg_of_pos_of_neg (show 0 < a0 by omega) p2
      rw [decide_eq_false p1, decide_eq_true p2, decide_eq_true this]; rfl
    · have := Int.mul_pos (show 0 < a0 by omega) (show 0 < x by omega)
      rw [decide_eq_false p1, decide_eq_false p2, decide_eq_false (show ¬ a0 * x < 0 by omega)]; rfl
  clear hy L ex ey prod q
  have fin : ∀ b : Bool, b = decide (N = 0) → Ev (fun k => num_times.j0 k neg ((N : Int) / 18446744073709551616) ((N : Int) % 18446744073709551616) ((D : Int) / 18446744073709551616) ((D : Int) % 18446744073709551616) b a0 (e : Int)) (lowest y (D : Int)) := by
    rintro b rfl
    by_cases z : N = 0
    · have y0 : y = 0 := by omega
      rw [y0, lowest_zero (by omega)]
      exact Ev.step (f := fun _ => some (0, 1, 0)) (fun k => by rw [num_times.j0, if_pos (decide_eq_true z)]) (Ev.now _)
    · have bad : (1099511627776 < (y.natAbs : Int) ∨ 1048576 < (D : Int)) → ((N : Int) / 18446744073709551616 ≠ 0 ∨ (D : Int) / 18446744073709551616 ≠ 0) → Ev (fun k => num_times.j0 k neg ((N : Int) / 18446744073709551616) ((N : Int) % 18446744073709551616) ((D : Int) / 18446744073709551616) ((D : Int) % 18446744073709551616) (decide (N = 0)) a0 (e : Int)) (lowest y (D : Int)) := fun hb ho => by
        rw [lowest_big hcN hb]
        refine Ev.step (f := fun _ => some (0, 0, 4)) (fun k => ?_) (Ev.now _)
        rw [num_times.j0, if_neg (by simpa using z)]
        by_cases o1 : (N : Int) / 18446744073709551616 = 0
        · rw [if_pos o1, if_neg (by omega)]
        · rw [if_neg o1]
      by_cases o1 : (N : Int) / 18446744073709551616 = 0
      · by_cases o2 : (D : Int) / 18446744073709551616 = 0
        · have M := made_ok (neg := decide (a0 < 0) != neg) (x := y) (show N < 18446744073709551616 by omega) D0 (by omega) yN sg
          refine Ev.step (f := fun k => num_made.f k (decide (a0 < 0) != neg) (N : Int) (D : Int)) (fun k => ?_) M
          rw [num_times.j0, if_neg (by simpa using z), if_pos o1, if_pos o2, show (N : Int) % 18446744073709551616 = N by omega, show (D : Int) % 18446744073709551616 = D by omega]
          cases num_made.f k (decide (a0 < 0) != neg) (N : Int) (D : Int) <;> rfl
        · exact bad (Or.inr (by omega)) (Or.inr o2)
      · exact bad (Or.inl (by omega)) (Or.inl o1)
  by_cases z : (N : Int) % 18446744073709551616 = 0
  · simp only [if_pos z]
    refine fin _ ?_
    rw [Bool.eq_iff_iff]
    simp only [beq_iff_eq, decide_eq_true_eq]
    omega
  · simp only [if_neg z]
    exact fin _ (decide_eq_false (by omega)).symm
theorem valid_neg {c d : Int} (h : valid c d) : valid (-c) d := by
  obtain ⟨v1, v2, v3, v4, v5⟩ := h
  exact ⟨v1, v2, by omega, by omega, by rw [Int.natAbs_neg]; exact v5⟩
/-- A product of sizes. -/
theorem prod_le {a d A D : Int} (a0 : -A ≤ a) (a1 : a ≤ A) (d0 : 0 ≤ d) (d1 : d ≤ D) (hA : 0 ≤ A) : -(A * D) ≤ a * d ∧ a * d ≤ A * D := by
  have h1 := Int.mul_le_mul_of_nonneg_right a1 d0
  have h2 := Int.mul_le_mul_of_nonneg_left d1 hA
  have h3 := Int.mul_le_mul_of_nonneg_right a0 d0
  rw [Int.neg_mul] at h3
  omega
theorem nadd_ok (a b c d : Int) : Ev (fun k => num_Add.f k a b c d) (if valid a b ∧ valid c d then lowest (a * d + c * b) (b * d) else (0, 0, 2)) := by
  have hj : Ev (fun k => num_Add.j0 k true a b c d) (0, 0, 2) := Ev.step (f := fun _ => some (0, 0, 2)) (fun k => by rw [num_Add.j0, if_pos rfl]) (Ev.now _)
  unfold num_Add.f
  refine Ev.bind (valid_ok a b) ?_
  by_cases h1 : valid a b
  · simp only [h1, decide_true, if_true, true_and]
    refine Ev.bind (valid_ok c d) ?_
    by_cases h2 : valid c d
    · simp only [h2, decide_true, Bool.not_true, if_true]
      obtain ⟨u1, u2, u3, u4, u5⟩ := h1
      obtain ⟨v1, v2, v3, v4, v5⟩ := h2
      have p1 := prod_le (A := 1099511627776) (D := 1048576) u3 u4 (show 0 ≤ d by omega) v2 (by decide)
      have p2 := prod_le (A := 1099511627776) (D := 1048576) v3 v4 (show 0 ≤ b by omega) u2 (by decide)
      have p3 := prod_le (A := 1048576) (D := 1048576) (show -1048576 ≤ b by omega) u2 (show 0 ≤ d by omega) v2 (by decide)
      have p4 := Int.mul_pos (show 0 < b by omega) (show 0 < d by omega)
      generalize hX : a * d = X at *
      generalize hY : c * b = Y at *
      generalize hD : b * d = D at *
      obtain ⟨E, rfl⟩ := Int.eq_ofNat_of_zero_le (show 0 ≤ D by omega)
      have M := made_ok (neg := decide (X + Y < 0)) (x := X + Y) (n := (X + Y).natAbs) (show (X + Y).natAbs < 18446744073709551616 by omega) (show 0 < E by omega) (show E < 18446744073709551616 by omega) rfl (fun _ => rfl)
      refine Ev.step (f := fun k => num_made.f k (decide (X + Y < 0)) ((X + Y).natAbs : Int) (E : Int)) (fun k => ?_) M
      rw [num_Add.j0, if_neg (by decide), hX, hY, w64 (x := X) (by omega) (by omega), w64 (x := Y) (by omega) (by omega), w64 (x := X + Y) (by omega) (by omega), size_ok (by omega) (by omega), Option.bind_some, wu (x := b) (by omega) (by omega), wu (x := d) (by omega) (by omega), hD, wu (x := (E : Int)) (by omega) (by omega)]
      cases num_made.f k (decide (X + Y < 0)) ((X + Y).natAbs : Int) (E : Int) <;> rfl
    · simp only [h2, decide_false, Bool.not_false, if_false]
      exact hj
  · simp only [h1, decide_false, Bool.false_eq_true, if_false, false_and]
    exact hj
theorem nsub_ok (a b c d : Int) : Ev (fun k => num_Sub.f k a b c d) (if valid a b ∧ valid c d then lowest (a * d - c * b) (b * d) else (0, 0, 2)) := by
  unfold num_Sub.f
  refine Ev.bind (neg_ok c d) ?_
  by_cases h2 : valid c d
  · simp only [h2, if_true, and_true]
    have A := nadd_ok a b (-c) d
    simp only [valid_neg h2, and_true, Int.neg_mul, ← Int.sub_eq_add_neg] at A
    exact Ev.bind A (Ev.now _)
  · simp only [h2, if_false, and_false]
    exact Ev.now _
theorem nmul_ok (a b c d : Int) : Ev (fun k => num_Mul.f k a b c d) (if valid a b ∧ valid c d then lowest (a * c) (b * d) else (0, 0, 2)) := by
  have hj : Ev (fun k => num_Mul.j0 k true a b c d) (0, 0, 2) := Ev.step (f := fun _ => some (0, 0, 2)) (fun k => by rw [num_Mul.j0, if_pos rfl]) (Ev.now _)
  unfold num_Mul.f
  refine Ev.bind (valid_ok a b) ?_
  by_cases h1 : valid a b
  · simp only [h1, decide_true, if_true, true_and]
    refine Ev.bind (valid_ok c d) ?_
    by_cases h2 : valid c d
    · simp only [h2, decide_true, Bool.not_true, if_true]
      obtain ⟨v1, v2, v3, v4, v5⟩ := h2
      obtain ⟨D, rfl⟩ := Int.eq_ofNat_of_zero_le (show 0 ≤ d by omega)
      have T := ntimes_ok h1 (neg := decide (c < 0)) (x := c) (n := c.natAbs) (d := D) (by omega) (by omega) (by omega) (by simpa using v5) rfl (fun _ => rfl)
      refine Ev.step (f := fun k => num_times.f k a b (decide (c < 0)) (c.natAbs : Int) (D : Int)) (fun k => ?_) T
      rw [num_Mul.j0, if_neg (by decide), size_ok (by omega) (by omega), Option.bind_some, wu (x := (D : Int)) (by omega) (by omega)]
      cases num_times.f k a b (decide (c < 0)) (c.natAbs : Int) (D : Int) <;> rfl
    · simp only [h2, decide_false, Bool.not_false, if_false]
      exact hj
  · simp only [h1, decide_false, Bool.false_eq_true, if_false, false_and]
    exact hj
theorem ndiv_ok (a b c d : Int) : Ev (fun k => num_Div.f k a b c d) (if valid a b ∧ valid c d then (if c = 0 then (0, 0, 5) else lowS (a * d) (b * c)) else (0, 0, 2)) := by
  have hj : Ev (fun k => num_Div.j0 k true a b c d) (0, 0, 2) := Ev.step (f := fun _ => some (0, 0, 2)) (fun k => by rw [num_Div.j0, if_pos rfl]) (Ev.now _)
  unfold num_Div.f
  refine Ev.bind (valid_ok a b) ?_
  by_cases h1 : valid a b
  · simp only [h1, decide_true, if_true, true_and]
    refine Ev.bind (valid_ok c d) ?_
    by_cases h2 : valid c d
    · simp only [h2, decide_true, Bool.not_true, if_true]
      obtain ⟨v1, v2, v3, v4, v5⟩ := h2
      by_cases c0 : c = 0
      · rw [if_pos c0]
        exact Ev.step (f := fun _ => some (0, 0, 5)) (fun k => by rw [num_Div.j0, if_neg (by decide), if_pos c0]) (Ev.now _)
      · rw [if_neg c0]
        obtain ⟨D, rfl⟩ := Int.eq_ofNat_of_zero_le (show 0 ≤ d by omega)
        have T := ntimes_ok h1 (neg := decide (c < 0)) (x := if c < 0 then -(D : Int) else D) (n := D) (d := c.natAbs) (by omega) (by omega) (by omega) (by rw [Nat.gcd_comm]; simpa using v5) (by split <;> omega) (fun h0 => by rw [decide_eq_decide]; split <;> omega)
        have e : lowS (a * (D : Int)) (b * c) = lowest (a * (if c < 0 then -(D : Int) else D)) (b * (c.natAbs : Int)) := by
          unfold lowS
          have b0 : 0 < b := by have := h1.1; omega
          by_cases s : c < 0
          · rw [if_pos (Int.mul_neg_of_pos_of_neg b0 s), if_pos s, show (c.natAbs : Int) = -c by omega, Int.mul_neg, Int.mul_neg]
          · have := Int.mul_pos b0 (show 0 < c by omega)
            rw [if_neg (show ¬ b * c < 0 by omega), if_neg s, show (c.natAbs : Int) = c by omega]
        rw [e]
        refine Ev.step (f := fun k => num_times.f k a b (decide (c < 0)) (D : Int) (c.natAbs : Int)) (fun k => ?_) T
        rw [num_Div.j0, if_neg (by decide), if_neg c0, size_ok (by omega) (by omega), Option.bind_some, wu (x := (D : Int)) (by omega) (by omega)]
        cases num_times.f k a b (decide (c < 0)) (D : Int) (c.natAbs : Int) <;> rfl
    · simp only [h2, decide_false, Bool.not_false, if_false]
      exact hj
  · simp only [h1, decide_false, Bool.false_eq_true, if_false, false_and]
    exact hj
end Go.Proofs.Num

namespace Go.Proofs.YtdjnneflpkllmaaDoor.Q
open Go.RowKit Go.Proofs.YtdjnneflpkllmaaDoorW.PrintWords Go.Proofs.YtdjnneflpkllmaaDoorW.PrintLast Go.Proofs.YtdjnneflpkllmaaDoorW.PrintMore
attribute [local go_sem] max2_int min2_int max_two min_two max_three min_three max_four min_four   -- for this text's walks alone
set_option linter.unusedVariables false
set_option linter.unusedSimpArgs false
attribute [local go_sem high] eqA23
mutual
def merinolaw01_NumField.j0 : Nat → Int → Bool → Int → Int → Int → Int → Int → Int → Int → Int → Option (Bool)
  | 0, _, _, _, _, _, _, _, _, _, _ => none
  | k + 1, x10, x43, x1126000, x1126001, x1127000, x1127001, x1128000, x1128001, x1132000, x1132001 => if x43 = true then (none) else ((num_Sub.f k x1132000 x1132001 x1127000 x1127001).bind fun bt1136 => (if x10 = 0 then (if bt1136.2.2 = 0 then (merinolaw01_NumField.j1 k (!(bt1136.1 == x1126000) || (!(bt1136.2.1 == x1126001))) x1126000 x1126001 x1127000 x1127001 x1128000 x1128001 x1132000 x1132001) else (merinolaw01_NumField.j1 k true x1126000 x1126001 x1127000 x1127001 x1128000 x1128001 x1132000 x1132001)) else (merinolaw01_NumField.j1 k false x1126000 x1126001 x1127000 x1127001 x1128000 x1128001 x1132000 x1132001)))
def merinolaw01_NumField.j1 : Nat → Bool → Int → Int → Int → Int → Int → Int → Int → Int → Option (Bool)
  | 0, _, _, _, _, _, _, _, _, _ => none
  | k + 1, x60, x1126000, x1126001, x1127000, x1127001, x1128000, x1128001, x1132000, x1132001 => if x60 = true then (none) else ((num_Mul.f k x1126000 x1126001 x1127000 x1127001).bind fun bt1140 => ((num_Mul.f k x1127000 x1127001 x1126000 x1126001).bind fun bt1144 => (if (!(bt1140.1 == bt1144.1) || (!(bt1140.2.1 == bt1144.2.1))) = true then (merinolaw01_NumField.j2 k bt1140.2.2 true x1126000 x1126001 x1127000 x1127001 x1128000 x1128001 x1132000 x1132001 bt1140.1 bt1140.2.1) else (merinolaw01_NumField.j2 k bt1140.2.2 (bt1140.2.2 != bt1144.2.2) x1126000 x1126001 x1127000 x1127001 x1128000 x1128001 x1132000 x1132001 bt1140.1 bt1140.2.1))))
def merinolaw01_NumField.j2 : Nat → Int → Bool → Int → Int → Int → Int → Int → Int → Int → Int → Int → Int → Option (Bool)
  | 0, _, _, _, _, _, _, _, _, _, _, _, _ => none
  | k + 1, x13, x80, x1126000, x1126001, x1127000, x1127001, x1128000, x1128001, x1132000, x1132001, x1144000, x1144001 => if x80 = true then (none) else ((num_Div.f k x1144000 x1144001 x1127000 x1127001).bind fun bt1148 => (if x13 = 0 then (if x1127000 = 0 then (merinolaw01_NumField.j3 k false x1126000 x1126001 x1127000 x1127001 x1128000 x1128001 x1132000 x1132001 x1144000 x1144001) else (if bt1148.2.2 = 0 then (merinolaw01_NumField.j3 k (!(bt1148.1 == x1126000) || (!(bt1148.2.1 == x1126001))) x1126000 x1126001 x1127000 x1127001 x1128000 x1128001 x1132000 x1132001 x1144000 x1144001) else (merinolaw01_NumField.j3 k true x1126000 x1126001 x1127000 x1127001 x1128000 x1128001 x1132000 x1132001 x1144000 x1144001))) else (merinolaw01_NumField.j3 k false x1126000 x1126001 x1127000 x1127001 x1128000 x1128001 x1132000 x1132001 x1144000 x1144001)))
def merinolaw01_NumField.j3 : Nat → Bool → Int → Int → Int → Int → Int → Int → Int → Int → Int → Int → Option (Bool)
  | 0, _, _, _, _, _, _, _, _, _, _, _ => none
  | k + 1, x102, x1126000, x1126001, x1127000, x1127001, x1128000, x1128001, x1132000, x1132001, x1144000, x1144001 => if x102 = true then (none) else ((num_Add.f k x1132000 x1132001 x1128000 x1128001).bind fun bt1152 => ((num_Add.f k x1127000 x1127001 x1128000 x1128001).bind fun bt1156 => ((num_Add.f k x1126000 x1126001 bt1156.1 bt1156.2.1).bind fun bt1160 => (if bt1152.2.2 = 0 then (if bt1156.2.2 = 0 then (if bt1160.2.2 = 0 then (merinolaw01_NumField.j4 k (!(bt1152.1 == bt1160.1) || (!(bt1152.2.1 == bt1160.2.1))) x1126000 x1126001 x1128000 x1128001 x1144000 x1144001 bt1156.1 bt1156.2.1) else (merinolaw01_NumField.j4 k false x1126000 x1126001 x1128000 x1128001 x1144000 x1144001 bt1156.1 bt1156.2.1)) else (merinolaw01_NumField.j4 k false x1126000 x1126001 x1128000 x1128001 x1144000 x1144001 bt1156.1 bt1156.2.1)) else (merinolaw01_NumField.j4 k false x1126000 x1126001 x1128000 x1128001 x1144000 x1144001 bt1156.1 bt1156.2.1)))))
def merinolaw01_NumField.j4 : Nat → Bool → Int → Int → Int → Int → Int → Int → Int → Int → Option (Bool)
  | 0, _, _, _, _, _, _, _, _, _ => none
  | k + 1, x135, x1126000, x1126001, x1128000, x1128001, x1144000, x1144001, x1160000, x1160001 => if x135 = true then (none) else ((num_Mul.f k x1126000 x1126001 x1160000 x1160001).bind fun bt1164 => ((num_Mul.f k x1126000 x1126001 x1128000 x1128001).bind fun bt1168 => ((num_Add.f k x1144000 x1144001 bt1168.1 bt1168.2.1).bind fun bt1172 => (if bt1164.2.2 = 0 then (if bt1168.2.2 = 0 then (if bt1172.2.2 = 0 then (if (bt1164.1 == bt1172.1 && (bt1164.2.1 == bt1172.2.1)) = true then ((merinolaw01_alive.f).bind fun t1176 => (some t1176)) else (none)) else ((merinolaw01_alive.f).bind fun t1177 => (some t1177))) else ((merinolaw01_alive.f).bind fun t1178 => (some t1178))) else ((merinolaw01_alive.f).bind fun t1179 => (some t1179))))))
end
def merinolaw01_NumField.f (k : Nat) (a0_0 : Int) (a0_1 : Int) (a1_0 : Int) (a1_1 : Int) (a2_0 : Int) (a2_1 : Int) : Option (Bool) := (num_Add.f k a0_0 a0_1 a1_0 a1_1).bind fun bt1128 => ((num_Add.f k a1_0 a1_1 a0_0 a0_1).bind fun bt1132 => (if (!(bt1128.1 == bt1132.1) || (!(bt1128.2.1 == bt1132.2.1))) = true then (merinolaw01_NumField.j0 k bt1132.2.2 true a0_0 a0_1 a1_0 a1_1 a2_0 a2_1 bt1128.1 bt1128.2.1) else (merinolaw01_NumField.j0 k bt1132.2.2 (bt1128.2.2 != bt1132.2.2) a0_0 a0_1 a1_0 a1_1 a2_0 a2_1 bt1128.1 bt1128.2.1)))
theorem merinolaw01_NumField.mono_l : ∀ k, (∀ y0 y1 y2 y3 y4 y5 y6 y7 y8 y9, LeO (merinolaw01_NumField.j0 k y0 y1 y2 y3 y4 y5 y6 y7 y8 y9) (merinolaw01_NumField.j0 (k + 1) y0 y1 y2 y3 y4 y5 y6 y7 y8 y9)) ∧ (∀ y0 y1 y2 y3 y4 y5 y6 y7 y8, LeO (merinolaw01_NumField.j1 k y0 y1 y2 y3 y4 y5 y6 y7 y8) (merinolaw01_NumField.j1 (k + 1) y0 y1 y2 y3 y4 y5 y6 y7 y8)) ∧ (∀ y0 y1 y2 y3 y4 y5 y6 y7 y8 y9 y10 y11, LeO (merinolaw01_NumField.j2 k y0 y1 y2 y3 y4 y5 y6 y7 y8 y9 y10 y11) (merinolaw01_NumField.j2 (k + 1) y0 y1 y2 y3 y4 y5 y6 y7 y8 y9 y10 y11)) ∧ (∀ y0 y1 y2 y3 y4 y5 y6 y7 y8 y9 y10, LeO (merinolaw01_NumField.j3 k y0 y1 y2 y3 y4 y5 y6 y7 y8 y9 y10) (merinolaw01_NumField.j3 (k + 1) y0 y1 y2 y3 y4 y5 y6 y7 y8 y9 y10)) ∧ (∀ y0 y1 y2 y3 y4 y5 y6 y7 y8, LeO (merinolaw01_NumField.j4 k y0 y1 y2 y3 y4 y5 y6 y7 y8) (merinolaw01_NumField.j4 (k + 1) y0 y1 y2 y3 y4 y5 y6 y7 y8))
  | 0 => ⟨fun _ _ _ _ _ _ _ _ _ _ r h => by simp [merinolaw01_NumField.j0] at h, fun _ _ _ _ _ _ _ _ _ r h => by simp [merinolaw01_NumField.j1] at h, fun _ _ _ _ _ _ _ _ _ _ _ _ r h => by simp [merinolaw01_NumField.j2] at h, fun _ _ _ _ _ _ _ _ _ _ _ r h => by simp [merinolaw01_NumField.j3] at h, fun _ _ _ _ _ _ _ _ _ r h => by simp [merinolaw01_NumField.j4] at h⟩
  | k + 1 => by
    obtain ⟨ih0, ih1, ih2, ih3, ih4⟩ := merinolaw01_NumField.mono_l k
    refine ⟨?_, ?_, ?_, ?_, ?_⟩
    · intro y0 y1 y2 y3 y4 y5 y6 y7 y8 y9
      unfold merinolaw01_NumField.j0
      repeat' first
      | (with_reducible exact ih0 _ _ _ _ _ _ _ _ _ _)
      | (with_reducible exact ih1 _ _ _ _ _ _ _ _ _)
      | (with_reducible exact ih2 _ _ _ _ _ _ _ _ _ _ _ _)
      | (with_reducible exact ih3 _ _ _ _ _ _ _ _ _ _ _)
      | (with_reducible exact ih4 _ _ _ _ _ _ _ _ _)
      | (with_reducible exact num_Add.mono _ _ _ _ _)
      | (with_reducible exact num_Div.mono _ _ _ _ _)
      | (with_reducible exact num_Mul.mono _ _ _ _ _)
      | (with_reducible exact num_Sub.mono _ _ _ _ _)
      | (with_reducible exact LeO.refl _)
      | (with_reducible exact LeO.none _)
      | (with_reducible refine LeO.ite ?_ ?_)
      | (with_reducible refine LeO.bind ?_ (fun _ => ?_))
      | exact ih0 _ _ _ _ _ _ _ _ _ _
      | exact ih1 _ _ _ _ _ _ _ _ _
      | exact ih2 _ _ _ _ _ _ _ _ _ _ _ _
      | exact ih3 _ _ _ _ _ _ _ _ _ _ _
      | exact ih4 _ _ _ _ _ _ _ _ _
      | exact num_Add.mono _ _ _ _ _
      | exact num_Div.mono _ _ _ _ _
      | exact num_Mul.mono _ _ _ _ _
      | exact num_Sub.mono _ _ _ _ _
      | exact LeO.none _
      | refine LeO.ite ?_ ?_
      | refine LeO.bind ?_ (fun _ => ?_)
    · intro y0 y1 y2 y3 y4 y5 y6 y7 y8
      unfold merinolaw01_NumField.j1
      repeat' first
      | (with_reducible exact ih0 _ _ _ _ _ _ _ _ _ _)
      | (with_reducible exact ih1 _ _ _ _ _ _ _ _ _)
      | (with_reducible exact ih2 _ _ _ _ _ _ _ _ _ _ _ _)
      | (with_reducible exact ih3 _ _ _ _ _ _ _ _ _ _ _)
      | (with_reducible exact ih4 _ _ _ _ _ _ _ _ _)
      | (with_reducible exact num_Add.mono _ _ _ _ _)
      | (with_reducible exact num_Div.mono _ _ _ _ _)
      | (with_reducible exact num_Mul.mono _ _ _ _ _)
      | (with_reducible exact num_Sub.mono _ _ _ _ _)
      | (with_reducible exact LeO.refl _)
      | (with_reducible exact LeO.none _)
      | (with_reducible refine LeO.ite ?_ ?_)
      | (with_reducible refine LeO.bind ?_ (fun _ => ?_))
      | exact ih0 _ _ _ _ _ _ _ _ _ _
      | exact ih1 _ _ _ _ _ _ _ _ _
      | exact ih2 _ _ _ _ _ _ _ _ _ _ _ _
      | exact ih3 _ _ _ _ _ _ _ _ _ _ _
      | exact ih4 _ _ _ _ _ _ _ _ _
      | exact num_Add.mono _ _ _ _ _
      | exact num_Div.mono _ _ _ _ _
      | exact num_Mul.mono _ _ _ _ _
      | exact num_Sub.mono _ _ _ _ _
      | exact LeO.none _
      | refine LeO.ite ?_ ?_
      | refine LeO.bind ?_ (fun _ => ?_)
    · intro y0 y1 y2 y3 y4 y5 y6 y7 y8 y9 y10 y11
      unfold merinolaw01_NumField.j2
      repeat' first
      | (with_reducible exact ih0 _ _ _ _ _ _ _ _ _ _)
      | (with_reducible exact ih1 _ _ _ _ _ _ _ _ _)
      | (with_reducible exact ih2 _ _ _ _ _ _ _ _ _ _ _ _)
      | (with_reducible exact ih3 _ _ _ _ _ _ _ _ _ _ _)
      | (with_reducible exact ih4 _ _ _ _ _ _ _ _ _)
      | (with_reducible exact num_Add.mono _ _ _ _ _)
      | (with_reducible exact num_Div.mono _ _ _ _ _)
      | (with_reducible exact num_Mul.mono _ _ _ _ _)
      | (with_reducible exact num_Sub.mono _ _ _ _ _)
      | (with_reducible exact LeO.refl _)
      | (with_reducible exact LeO.none _)
      | (with_reducible refine LeO.ite ?_ ?_)
      | (with_reducible refine LeO.bind ?_ (fun _ => ?_))
      | exact ih0 _ _ _ _ _ _ _ _ _ _
      | exact ih1 _ _ _ _ _ _ _ _ _
      | exact ih2 _ _ _ _ _ _ _ _ _ _ _ _
      | exact ih3 _ _ _ _ _ _ _ _ _ _ _
      | exact ih4 _ _ _ _ _ _ _ _ _
      | exact num_Add.mono _ _ _ _ _
      | exact num_Div.mono _ _ _ _ _
      | exact num_Mul.mono _ _ _ _ _
      | exact num_Sub.mono _ _ _ _ _
      | exact LeO.none _
      | refine LeO.ite ?_ ?_
      | refine LeO.bind ?_ (fun _ => ?_)
    · intro y0 y1 y2 y3 y4 y5 y6 y7 y8 y9 y10
      unfold merinolaw01_NumField.j3
      repeat' first
      | (with_reducible exact ih0 _ _ _ _ _ _ _ _ _ _)
      | (with_reducible exact ih1 _ _ _ _ _ _ _ _ _)
      | (with_reducible exact ih2 _ _ _ _ _ _ _ _ _ _ _ _)
      | (with_reducible exact ih3 _ _ _ _ _ _ _ _ _ _ _)
      | (with_reducible exact ih4 _ _ _ _ _ _ _ _ _)
      | (with_reducible exact num_Add.mono _ _ _ _ _)
      | (with_reducible exact num_Div.mono _ _ _ _ _)
      | (with_reducible exact num_Mul.mono _ _ _ _ _)
      | (with_reducible exact num_Sub.mono _ _ _ _ _)
      | (with_reducible exact LeO.refl _)
      | (with_reducible exact LeO.none _)
      | (with_reducible refine LeO.ite ?_ ?_)
      | (with_reducible refine LeO.bind ?_ (fun _ => ?_))
      | exact ih0 _ _ _ _ _ _ _ _ _ _
      | exact ih1 _ _ _ _ _ _ _ _ _
      | exact ih2 _ _ _ _ _ _ _ _ _ _ _ _
      | exact ih3 _ _ _ _ _ _ _ _ _ _ _
      | exact ih4 _ _ _ _ _ _ _ _ _
      | exact num_Add.mono _ _ _ _ _
      | exact num_Div.mono _ _ _ _ _
      | exact num_Mul.mono _ _ _ _ _
      | exact num_Sub.mono _ _ _ _ _
      | exact LeO.none _
      | refine LeO.ite ?_ ?_
      | refine LeO.bind ?_ (fun _ => ?_)
    · intro y0 y1 y2 y3 y4 y5 y6 y7 y8
      unfold merinolaw01_NumField.j4
      repeat' first
      | (with_reducible exact ih0 _ _ _ _ _ _ _ _ _ _)
      | (with_reducible exact ih1 _ _ _ _ _ _ _ _ _)
      | (with_reducible exact ih2 _ _ _ _ _ _ _ _ _ _ _ _)
      | (with_reducible exact ih3 _ _ _ _ _ _ _ _ _ _ _)
      | (with_reducible exact ih4 _ _ _ _ _ _ _ _ _)
      | (with_reducible exact num_Add.mono _ _ _ _ _)
      | (with_reducible exact num_Div.mono _ _ _ _ _)
      | (with_reducible exact num_Mul.mono _ _ _ _ _)
      | (with_reducible exact num_Sub.mono _ _ _ _ _)
      | (with_reducible exact LeO.refl _)
      | (with_reducible exact LeO.none _)
      | (with_reducible refine LeO.ite ?_ ?_)
      | (with_reducible refine LeO.bind ?_ (fun _ => ?_))
      | exact ih0 _ _ _ _ _ _ _ _ _ _
      | exact ih1 _ _ _ _ _ _ _ _ _
      | exact ih2 _ _ _ _ _ _ _ _ _ _ _ _
      | exact ih3 _ _ _ _ _ _ _ _ _ _ _
      | exact ih4 _ _ _ _ _ _ _ _ _
      | exact num_Add.mono _ _ _ _ _
      | exact num_Div.mono _ _ _ _ _
      | exact num_Mul.mono _ _ _ _ _
      | exact num_Sub.mono _ _ _ _ _
      | exact LeO.none _
      | refine LeO.ite ?_ ?_
      | refine LeO.bind ?_ (fun _ => ?_)
theorem merinolaw01_NumField.mono : ∀ a0 a1 a2 a3 a4 a5 k, LeO (merinolaw01_NumField.f k a0 a1 a2 a3 a4 a5) (merinolaw01_NumField.f (k + 1) a0 a1 a2 a3 a4 a5) := by
  intro a0 a1 a2 a3 a4 a5 k
  obtain ⟨ih0, ih1, ih2, ih3, ih4⟩ := merinolaw01_NumField.mono_l k
  unfold merinolaw01_NumField.f
  repeat' first
      | (with_reducible exact ih0 _ _ _ _ _ _ _ _ _ _)
      | (with_reducible exact ih1 _ _ _ _ _ _ _ _ _)
      | (with_reducible exact ih2 _ _ _ _ _ _ _ _ _ _ _ _)
      | (with_reducible exact ih3 _ _ _ _ _ _ _ _ _ _ _)
      | (with_reducible exact ih4 _ _ _ _ _ _ _ _ _)
      | (with_reducible exact num_Add.mono _ _ _ _ _)
      | (with_reducible exact num_Div.mono _ _ _ _ _)
      | (with_reducible exact num_Mul.mono _ _ _ _ _)
      | (with_reducible exact num_Sub.mono _ _ _ _ _)
      | (with_reducible exact LeO.refl _)
      | (with_reducible exact LeO.none _)
      | (with_reducible refine LeO.ite ?_ ?_)
      | (with_reducible refine LeO.bind ?_ (fun _ => ?_))
      | exact ih0 _ _ _ _ _ _ _ _ _ _
      | exact ih1 _ _ _ _ _ _ _ _ _
      | exact ih2 _ _ _ _ _ _ _ _ _ _ _ _
      | exact ih3 _ _ _ _ _ _ _ _ _ _ _
      | exact ih4 _ _ _ _ _ _ _ _ _
      | exact num_Add.mono _ _ _ _ _
      | exact num_Div.mono _ _ _ _ _
      | exact num_Mul.mono _ _ _ _ _
      | exact num_Sub.mono _ _ _ _ _
      | exact LeO.none _
      | refine LeO.ite ?_ ?_
      | refine LeO.bind ?_ (fun _ => ?_)
end Go.Proofs.YtdjnneflpkllmaaDoor.Q

namespace Go.Proofs.Num
open Go.RowKit Go.Proofs.YtdjnneflpkllmaaDoorW.PrintWords Go.Proofs.YtdjnneflpkllmaaDoorW.PrintMore Go.Proofs.YtdjnneflpkllmaaDoor.Q
set_option linter.unusedVariables false
set_option linter.unusedSimpArgs false
/-- A valid fraction of the same value is what comes out. -/
theorem lowest_eq {x y p q : Int} (hy : 0 < y) (hv : valid p q) (h : x * q = p * y) : lowest x y = (p, q, 0) := by
  obtain ⟨v1, v2, v3, v4, v5⟩ := hv
  obtain ⟨Y, rfl⟩ := Int.eq_ofNat_of_zero_le (show 0 ≤ y by omega)
  obtain ⟨Q, rfl⟩ := Int.eq_ofNat_of_zero_le (show 0 ≤ q by omega)
  have hn : x.natAbs * Q = p.natAbs * Y := by
    have := congrArg Int.natAbs h
    rwa [Int.natAbs_mul, Int.natAbs_mul, Int.natAbs_natCast, Int.natAbs_natCast] at this
  rw [Int.natAbs_natCast] at v5
  have d : Q ∣ Y := Nat.Coprime.dvd_of_dvd_mul_left (show Nat.Coprime Q p.natAbs from Nat.Coprime.symm v5) ⟨x.natAbs, by rw [← hn]; exact Nat.mul_comm _ _⟩
  obtain ⟨c, rfl⟩ := d
  have Q0 : 0 < Q := by omega
  have c0 : 0 < c := Nat.pos_of_ne_zero fun h0 => by rw [h0, Nat.mul_zero] at hy; simp at hy
  have ex : x = (c : Int) * p := by
    have h2 : x * (Q : Int) = ((c : Int) * p) * (Q : Int) := by rw [h, Int.natCast_mul]; grind
    exact Int.eq_of_mul_eq_mul_right (by omega) h2
  have ey : ((Q * c : Nat) : Int) = (c : Int) * (Q : Int) := by rw [Int.natCast_mul]; exact Int.mul_comm _ _
  rw [ex, ey, lowest_scale (by omega) (by omega)]
  unfold lowest
  simp only [v5, Int.natAbs_natCast, Int.natCast_one, Int.ediv_one]
  rw [if_pos (by omega)]
  congr 1
  split <;> omega
/-- What comes out has the same value. -/
theorem lowest_spec {x y p q e : Int} (hy : 0 < y) (h : lowest x y = (p, q, e)) : (e = 0 → valid p q ∧ x * q = p * y) ∧ (valid p q → e = 0) := by
  have V := lowest_valid (x := x) hy
  rw [h] at V
  refine ⟨fun he => ⟨V.mpr he, ?_⟩, V.mp⟩
  subst he
  obtain ⟨Y, rfl⟩ := Int.eq_ofNat_of_zero_le (show 0 ≤ y by omega)
  have hg : 0 < Nat.gcd x.natAbs Y := Nat.gcd_pos_of_pos_right _ (by omega)
  unfold lowest at h
  simp only [Int.natAbs_natCast] at h
  obtain ⟨a, ea⟩ := Nat.gcd_dvd_left x.natAbs Y
  obtain ⟨b, eb⟩ := Nat.gcd_dvd_right x.natAbs Y
  generalize hG : Nat.gcd x.natAbs Y = g at *
  have q1 : (x.natAbs : Int) / (g : Int) = (a : Int) := by rw [← Int.natCast_ediv, Nat.div_eq_of_eq_mul_right hg ea]
  have q2 : (Y : Int) / (g : Int) = (b : Int) := by rw [← Int.natCast_ediv, Nat.div_eq_of_eq_mul_right hg eb]
  rw [q1, q2] at h
  have eY : (Y : Int) = (g : Int) * (b : Int) := by rw [eb, Int.natCast_mul]
  have eX : (x.natAbs : Int) = (g : Int) * (a : Int) := by rw [ea, Int.natCast_mul]
  split at h
  · rename_i c
    injection h with h1 h2
    injection h2 with h2 h3
    subst h2
    rw [eY]
    by_cases s : x < 0
    · rw [if_pos s] at h1
      have : x = -((g : Int) * (a : Int)) := by omega
      rw [this, ← h1]
      grind
    · rw [if_neg s] at h1
      have : x = (g : Int) * (a : Int) := by omega
      rw [this, ← h1]
      grind
  · injection h with h1 h2
    injection h2 with h2 h3
    simp at h3
def addV (a b c d : Int) : Int × Int × Int := if valid a b ∧ valid c d then lowest (a * d + c * b) (b * d) else (0, 0, 2)
def subV (a b c d : Int) : Int × Int × Int := if valid a b ∧ valid c d then lowest (a * d - c * b) (b * d) else (0, 0, 2)
def mulV (a b c d : Int) : Int × Int × Int := if valid a b ∧ valid c d then lowest (a * c) (b * d) else (0, 0, 2)
def divV (a b c d : Int) : Int × Int × Int := if valid a b ∧ valid c d then (if c = 0 then (0, 0, 5) else lowS (a * d) (b * c)) else (0, 0, 2)
theorem valid_pos {a b : Int} (h : valid a b) : 0 < b := by have := h.1; omega
theorem not_valid_zero : ¬ valid 0 0 := fun h => absurd h.1 (by decide)
theorem addV_spec {a b c d p q e : Int} (h : addV a b c d = (p, q, e)) : (e = 0 → valid a b ∧ valid c d ∧ valid p q ∧ (a * d + c * b) * q = p * (b * d)) ∧ (valid p q → e = 0) := by
  unfold addV at h
  split at h
  · rename_i v
    have S := lowest_spec (Int.mul_pos (valid_pos v.1) (valid_pos v.2)) h
    exact ⟨fun he => ⟨v.1, v.2, S.1 he⟩, S.2⟩
  · injection h with h1 h2
    injection h2 with h2 h3
    subst h1 h2 h3
    exact ⟨fun h => absurd h (by decide), fun h => absurd h not_valid_zero⟩
theorem mulV_spec {a b c d p q e : Int} (h : mulV a b c d = (p, q, e)) : (e = 0 → valid a b ∧ valid c d ∧ valid p q ∧ (a * c) * q = p * (b * d)) ∧ (valid p q → e = 0) := by
  unfold mulV at h
  split at h
  · rename_i v
    have S := lowest_spec (Int.mul_pos (valid_pos v.1) (valid_pos v.2)) h
    exact ⟨fun he => ⟨v.1, v.2, S.1 he⟩, S.2⟩
  · injection h with h1 h2
    injection h2 with h2 h3
    subst h1 h2 h3
    exact ⟨fun h => absurd h (by decide), fun h => absurd h not_valid_zero⟩
theorem addV_comm (a b c d : Int) : addV a b c d = addV c d a b := by
  unfold addV
  rw [show c * b + a * d = a * d + c * b by omega, Int.mul_comm d b]
  by_cases h : valid a b ∧ valid c d
  · rw [if_pos h, if_pos ⟨h.2, h.1⟩]
  · rw [if_neg h, if_neg (fun g => h ⟨g.2, g.1⟩)]
theorem mulV_comm (a b c d : Int) : mulV a b c d = mulV c d a b := by
  unfold mulV
  rw [Int.mul_comm c a, Int.mul_comm d b]
  by_cases h : valid a b ∧ valid c d
  · rw [if_pos h, if_pos ⟨h.2, h.1⟩]
  · rw [if_neg h, if_neg (fun g => h ⟨g.2, g.1⟩)]
/-- (a + b) - b. -/
theorem sub_back {a b c d p q e : Int} (h : addV a b c d = (p, q, e)) (he : e = 0) : subV p q c d = (a, b, 0) := by
  obtain ⟨va, vc, vp, k⟩ := (addV_spec h).1 he
  unfold subV
  rw [if_pos ⟨vp, vc⟩]
  exact lowest_eq (Int.mul_pos (valid_pos vp) (valid_pos vc)) va (by grind)
/-- (a b) / b. -/
theorem div_back {a b c d p q e : Int} (h : mulV a b c d = (p, q, e)) (he : e = 0) (hc : c ≠ 0) : divV p q c d = (a, b, 0) := by
  obtain ⟨va, vc, vp, k⟩ := (mulV_spec h).1 he
  unfold divV
  rw [if_pos ⟨vp, vc⟩, if_neg hc]
  have q0 := valid_pos vp
  unfold lowS
  by_cases s : c < 0
  · have n := Int.mul_neg_of_pos_of_neg q0 s
    rw [if_pos n]
    exact lowest_eq (by omega) va (by grind)
  · have n := Int.mul_pos q0 (show 0 < c by omega)
    rw [if_neg (show ¬ q * c < 0 by omega)]
    exact lowest_eq n va (by grind)
/-- (a + b) + c and a + (b + c). -/
theorem add_assoc3 {a0 a1 b0 b1 c0 c1 p q e l m e2 n r e3 s t e4 : Int} (h1 : addV a0 a1 b0 b1 = (p, q, e)) (h2 : addV p q c0 c1 = (l, m, e2)) (h3 : addV b0 b1 c0 c1 = (n, r, e3)) (h4 : addV a0 a1 n r = (s, t, e4)) (z2 : e2 = 0) (z3 : e3 = 0) (z4 : e4 = 0) : l = s ∧ m = t := by
  obtain ⟨vp, vc, vl, k2⟩ := (addV_spec h2).1 z2
  obtain ⟨va, vb, -, k1⟩ := (addV_spec h1).1 ((addV_spec h1).2 vp)
  obtain ⟨-, -, vn, k3⟩ := (addV_spec h3).1 z3
  have a1p := valid_pos va
  have b1p := valid_pos vb
  have c1p := valid_pos vc
  have qp := valid_pos vp
  have rp := valid_pos vn
  have key : (a0 * r + n * a1) * m = l * (a1 * r) := by
    refine Int.eq_of_mul_eq_mul_right (a := q * b1 * c1) (Int.ne_of_gt (Int.mul_pos (Int.mul_pos qp b1p) c1p)) ?_
    clear h1 h2 h3 h4
    grind
  unfold addV at h4
  rw [if_pos ⟨va, vn⟩, lowest_eq (Int.mul_pos a1p rp) vl key] at h4
  injection h4 with g1 g2
  injection g2 with g2 g3
  exact ⟨g1, g2⟩
/-- a (b + c) and a b + a c. -/
theorem distrib3 {a0 a1 b0 b1 c0 c1 n r e3 w x e8 p q e u v e9 s t e10 : Int} (h3 : addV b0 b1 c0 c1 = (n, r, e3)) (h8 : mulV a0 a1 n r = (w, x, e8)) (h1 : mulV a0 a1 b0 b1 = (p, q, e)) (h9 : mulV a0 a1 c0 c1 = (u, v, e9)) (h10 : addV p q u v = (s, t, e10)) (z8 : e8 = 0) (z9 : e9 = 0) (z10 : e10 = 0) : w = s ∧ x = t := by
  obtain ⟨va, vn, vw, k8⟩ := (mulV_spec h8).1 z8
  obtain ⟨vb, vc, -, k3⟩ := (addV_spec h3).1 ((addV_spec h3).2 vn)
  obtain ⟨vp, vu, vs, k10⟩ := (addV_spec h10).1 z10
  obtain ⟨-, -, -, k1⟩ := (mulV_spec h1).1 ((mulV_spec h1).2 vp)
  obtain ⟨-, -, -, k9⟩ := (mulV_spec h9).1 z9
  have a1p := valid_pos va
  have b1p := valid_pos vb
  have c1p := valid_pos vc
  have rp := valid_pos vn
  have key : (p * v + u * q) * x = w * (q * v) := by
    refine Int.eq_of_mul_eq_mul_right (a := a1 * b1 * c1 * r) (Int.ne_of_gt (Int.mul_pos (Int.mul_pos (Int.mul_pos a1p b1p) c1p) rp)) ?_
    have e1 : (p * v + u * q) * x * (a1 * b1 * c1 * r) = q * v * x * a0 * ((b0 * c1 + c0 * b1) * r) := by
      have i1 : (p * v + u * q) * x * (a1 * b1 * c1 * r) = v * x * c1 * r * (p * (a1 * b1)) + q * x * b1 * r * (u * (a1 * c1)) := by grind
      rw [i1, ← k1, ← k9]
      grind
    have e2 : w * (q * v) * (a1 * b1 * c1 * r) = q * v * b1 * c1 * (w * (a1 * r)) := by grind
    rw [e1, k3, e2, ← k8]
    grind
  unfold addV at h10
  rw [if_pos ⟨vp, vu⟩, lowest_eq (Int.mul_pos (valid_pos vp) (valid_pos vu)) vw key] at h10
  injection h10 with g1 g2
  injection g2 with g2 g3
  exact ⟨g1, g2⟩
theorem field_law (a0 a1 b0 b1 c0 c1 : Int) : Ev (fun k => merinolaw01_NumField.f k a0 a1 b0 b1 c0 c1) true := by
  obtain ⟨ab0, ab1, e1, hab⟩ : ∃ p q e, addV a0 a1 b0 b1 = (p, q, e) := ⟨_, _, _, rfl⟩
  obtain ⟨x0, x1, e2, hx⟩ : ∃ p q e, subV ab0 ab1 b0 b1 = (p, q, e) := ⟨_, _, _, rfl⟩
  obtain ⟨pq0, pq1, e3, hpq⟩ : ∃ p q e, mulV a0 a1 b0 b1 = (p, q, e) := ⟨_, _, _, rfl⟩
  obtain ⟨y0, y1, e4, hy⟩ : ∃ p q e, divV pq0 pq1 b0 b1 = (p, q, e) := ⟨_, _, _, rfl⟩
  obtain ⟨l0, l1, e5, hl⟩ : ∃ p q e, addV ab0 ab1 c0 c1 = (p, q, e) := ⟨_, _, _, rfl⟩
  obtain ⟨bc0, bc1, e6, hbc⟩ : ∃ p q e, addV b0 b1 c0 c1 = (p, q, e) := ⟨_, _, _, rfl⟩
  obtain ⟨r0, r1, e7, hr⟩ : ∃ p q e, addV a0 a1 bc0 bc1 = (p, q, e) := ⟨_, _, _, rfl⟩
  obtain ⟨w0, w1, e8, hw⟩ : ∃ p q e, mulV a0 a1 bc0 bc1 = (p, q, e) := ⟨_, _, _, rfl⟩
  obtain ⟨ac0, ac1, e9, hac⟩ : ∃ p q e, mulV a0 a1 c0 c1 = (p, q, e) := ⟨_, _, _, rfl⟩
  obtain ⟨s0, s1, e10, hs⟩ : ∃ p q e, addV pq0 pq1 ac0 ac1 = (p, q, e) := ⟨_, _, _, rfl⟩
  have E1 : Ev (fun k => num_Add.f k a0 a1 b0 b1) (ab0, ab1, e1) := by rw [← hab]; exact nadd_ok a0 a1 b0 b1
  have E1' : Ev (fun k => num_Add.f k b0 b1 a0 a1) (ab0, ab1, e1) := by rw [← hab, addV_comm]; exact nadd_ok b0 b1 a0 a1
  have E2 : Ev (fun k => num_Sub.f k ab0 ab1 b0 b1) (x0, x1, e2) := by rw [← hx]; exact nsub_ok ab0 ab1 b0 b1
  have E3 : Ev (fun k => num_Mul.f k a0 a1 b0 b1) (pq0, pq1, e3) := by rw [← hpq]; exact nmul_ok a0 a1 b0 b1
  have E3' : Ev (fun k => num_Mul.f k b0 b1 a0 a1) (pq0, pq1, e3) := by rw [← hpq, mulV_comm]; exact nmul_ok b0 b1 a0 a1
  have E4 : Ev (fun k => num_Div.f k pq0 pq1 b0 b1) (y0, y1, e4) := by rw [← hy]; exact ndiv_ok pq0 pq1 b0 b1
  have E5 : Ev (fun k => num_Add.f k ab0 ab1 c0 c1) (l0, l1, e5) := by rw [← hl]; exact nadd_ok ab0 ab1 c0 c1
  have E6 : Ev (fun k => num_Add.f k b0 b1 c0 c1) (bc0, bc1, e6) := by rw [← hbc]; exact nadd_ok b0 b1 c0 c1
  have E7 : Ev (fun k => num_Add.f k a0 a1 bc0 bc1) (r0, r1, e7) := by rw [← hr]; exact nadd_ok a0 a1 bc0 bc1
  have E8 : Ev (fun k => num_Mul.f k a0 a1 bc0 bc1) (w0, w1, e8) := by rw [← hw]; exact nmul_ok a0 a1 bc0 bc1
  have E9 : Ev (fun k => num_Mul.f k a0 a1 c0 c1) (ac0, ac1, e9) := by rw [← hac]; exact nmul_ok a0 a1 c0 c1
  have E10 : Ev (fun k => num_Add.f k pq0 pq1 ac0 ac1) (s0, s1, e10) := by rw [← hs]; exact nadd_ok pq0 pq1 ac0 ac1
  have C1 : e1 = 0 → x0 = a0 ∧ x1 = a1 ∧ e2 = 0 := fun h => by
    have := sub_back hab h
    rw [hx] at this
    injection this with g1 g2
    injection g2 with g2 g3
    exact ⟨g1, g2, g3⟩
  have C2 : e3 = 0 → b0 ≠ 0 → y0 = a0 ∧ y1 = a1 ∧ e4 = 0 := fun h hb => by
    have := div_back hpq h hb
    rw [hy] at this
    injection this with g1 g2
    injection g2 with g2 g3
    exact ⟨g1, g2, g3⟩
  have C3 := add_assoc3 hab hl hbc hr
  have C4 := distrib3 hbc hw hpq hac hs
  have al : merinolaw01_alive.f = some true := rfl
  have J4 : Ev (fun k => merinolaw01_NumField.j4 k false a0 a1 c0 c1 pq0 pq1 bc0 bc1) true := by
    refine Ev.step (f := fun k => ((num_Mul.f k a0 a1 bc0 bc1).bind fun bt1164 => ((num_Mul.f k a0 a1 c0 c1).bind fun bt1168 => ((num_Add.f k pq0 pq1 bt1168.1 bt1168.2.1).bind fun bt1172 => (if bt1164.2.2 = 0 then (if bt1168.2.2 = 0 then (if bt1172.2.2 = 0 then (if (bt1164.1 == bt1172.1 && (bt1164.2.1 == bt1172.2.1)) = true then ((merinolaw01_alive.f).bind fun t1176 => (some t1176)) else (none)) else ((merinolaw01_alive.f).bind fun t1177 => (some t1177))) else ((merinolaw01_alive.f).bind fun t1178 => (some t1178))) else ((merinolaw01_alive.f).bind fun t1179 => (some t1179))))))) (fun k => by rw [merinolaw01_NumField.j4, if_neg (by decide)]) (Ev.bind E8 (Ev.bind E9 (Ev.bind E10 ?_)))
    simp only [al, Option.bind_some]
    by_cases h8 : e8 = 0
    · by_cases h9 : e9 = 0
      · by_cases h10 : e10 = 0
        · obtain ⟨g1, g2⟩ := C4 h8 h9 h10
          simp only [if_pos h8, if_pos h9, if_pos h10, g1, g2, beq_self_eq_true, Bool.and_self, if_true]
          exact Ev.now _
        · simp only [if_pos h8, if_pos h9, if_neg h10]
          exact Ev.now _
      · simp only [if_pos h8, if_neg h9]
        exact Ev.now _
    · simp only [if_neg h8]
      exact Ev.now _
  have J3 : Ev (fun k => merinolaw01_NumField.j3 k false a0 a1 b0 b1 c0 c1 ab0 ab1 pq0 pq1) true := by
    refine Ev.step (f := fun k => ((num_Add.f k ab0 ab1 c0 c1).bind fun bt1152 => ((num_Add.f k b0 b1 c0 c1).bind fun bt1156 => ((num_Add.f k a0 a1 bt1156.1 bt1156.2.1).bind fun bt1160 => (if bt1152.2.2 = 0 then (if bt1156.2.2 = 0 then (if bt1160.2.2 = 0 then (merinolaw01_NumField.j4 k (!(bt1152.1 == bt1160.1) || (!(bt1152.2.1 == bt1160.2.1))) a0 a1 c0 c1 pq0 pq1 bt1156.1 bt1156.2.1) else (merinolaw01_NumField.j4 k false a0 a1 c0 c1 pq0 pq1 bt1156.1 bt1156.2.1)) else (merinolaw01_NumField.j4 k false a0 a1 c0 c1 pq0 pq1 bt1156.1 bt1156.2.1)) else (merinolaw01_NumField.j4 k false a0 a1 c0 c1 pq0 pq1 bt1156.1 bt1156.2.1)))))) (fun k => by rw [merinolaw01_NumField.j3, if_neg (by decide)]) (Ev.bind E5 (Ev.bind E6 (Ev.bind E7 ?_)))
    by_cases h5 : e5 = 0
    · by_cases h6 : e6 = 0
      · by_cases h7 : e7 = 0
        · obtain ⟨g1, g2⟩ := C3 h5 h6 h7
          simp only [if_pos h5, if_pos h6, if_pos h7, g1, g2, beq_self_eq_true, Bool.not_true, Bool.or_self]
          exact J4
        · simp only [if_pos h5, if_pos h6, if_neg h7]
          exact J4
      · simp only [if_pos h5, if_neg h6]
        exact J4
    · simp only [if_neg h5]
      exact J4
  have J2 : Ev (fun k => merinolaw01_NumField.j2 k e3 false a0 a1 b0 b1 c0 c1 ab0 ab1 pq0 pq1) true := by
    refine Ev.step (f := fun k => ((num_Div.f k pq0 pq1 b0 b1).bind fun bt1148 => (if e3 = 0 then (if b0 = 0 then (merinolaw01_NumField.j3 k false a0 a1 b0 b1 c0 c1 ab0 ab1 pq0 pq1) else (if bt1148.2.2 = 0 then (merinolaw01_NumField.j3 k (!(bt1148.1 == a0) || (!(bt1148.2.1 == a1))) a0 a1 b0 b1 c0 c1 ab0 ab1 pq0 pq1) else (merinolaw01_NumField.j3 k true a0 a1 b0 b1 c0 c1 ab0 ab1 pq0 pq1))) else (merinolaw01_NumField.j3 k false a0 a1 b0 b1 c0 c1 ab0 ab1 pq0 pq1)))) (fun k => by rw [merinolaw01_NumField.j2, if_neg (by decide)]) (Ev.bind E4 ?_)
    by_cases h3 : e3 = 0
    · by_cases hb : b0 = 0
      · simp only [if_pos h3, if_pos hb]
        exact J3
      · obtain ⟨g1, g2, g3⟩ := C2 h3 hb
        simp only [if_pos h3, if_neg hb, if_pos g3, g1, g2, beq_self_eq_true, Bool.not_true, Bool.or_self]
        exact J3
    · simp only [if_neg h3]
      exact J3
  have J1 : Ev (fun k => merinolaw01_NumField.j1 k false a0 a1 b0 b1 c0 c1 ab0 ab1) true := by
    refine Ev.step (f := fun k => ((num_Mul.f k a0 a1 b0 b1).bind fun bt1140 => ((num_Mul.f k b0 b1 a0 a1).bind fun bt1144 => (if (!(bt1140.1 == bt1144.1) || (!(bt1140.2.1 == bt1144.2.1))) = true then (merinolaw01_NumField.j2 k bt1140.2.2 true a0 a1 b0 b1 c0 c1 ab0 ab1 bt1140.1 bt1140.2.1) else (merinolaw01_NumField.j2 k bt1140.2.2 (bt1140.2.2 != bt1144.2.2) a0 a1 b0 b1 c0 c1 ab0 ab1 bt1140.1 bt1140.2.1))))) (fun k => by rw [merinolaw01_NumField.j1, if_neg (by decide)]) (Ev.bind E3 (Ev.bind E3' ?_))
    simp only [beq_self_eq_true, Bool.not_true, Bool.or_self, Bool.false_eq_true, if_false, bne_self_eq_false]
    exact J2
  have J0 : Ev (fun k => merinolaw01_NumField.j0 k e1 false a0 a1 b0 b1 c0 c1 ab0 ab1) true := by
    refine Ev.step (f := fun k => ((num_Sub.f k ab0 ab1 b0 b1).bind fun bt1136 => (if e1 = 0 then (if bt1136.2.2 = 0 then (merinolaw01_NumField.j1 k (!(bt1136.1 == a0) || (!(bt1136.2.1 == a1))) a0 a1 b0 b1 c0 c1 ab0 ab1) else (merinolaw01_NumField.j1 k true a0 a1 b0 b1 c0 c1 ab0 ab1)) else (merinolaw01_NumField.j1 k false a0 a1 b0 b1 c0 c1 ab0 ab1)))) (fun k => by rw [merinolaw01_NumField.j0, if_neg (by decide)]) (Ev.bind E2 ?_)
    by_cases h1 : e1 = 0
    · obtain ⟨g1, g2, g3⟩ := C1 h1
      simp only [if_pos h1, if_pos g3, g1, g2, beq_self_eq_true, Bool.not_true, Bool.or_self]
      exact J1
    · simp only [if_neg h1]
      exact J1
  unfold merinolaw01_NumField.f
  refine Ev.bind E1 (Ev.bind E1' ?_)
  simp only [beq_self_eq_true, Bool.not_true, Bool.or_self, Bool.false_eq_true, if_false, bne_self_eq_false]
  exact J0
end Go.Proofs.Num
