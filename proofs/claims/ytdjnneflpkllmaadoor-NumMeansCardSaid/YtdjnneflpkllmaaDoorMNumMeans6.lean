/- Part 6 of the proof of NumMeans. -/
import Derived.Test.YtdjnneflpkllmaaDoorMNumMeans5

namespace Go.Proofs.YtdjnneflpkllmaaDoor.Q
open Go.RowKit Go.Proofs.YtdjnneflpkllmaaDoorW.PrintWords Go.Proofs.YtdjnneflpkllmaaDoorW.PrintLast Go.Proofs.YtdjnneflpkllmaaDoorW.PrintMore
attribute [local go_sem] max2_int min2_int max_two min_two max_three min_three max_four min_four   -- for this text's walks alone
set_option linter.unusedVariables false
set_option linter.unusedSimpArgs false
def num_Best.j0 : Nat → Int → Int → Int → Bool → Option (Int × Int × Int)
  | 0, _, _, _, _ => none
  | k + 1, x0, x1, x2, x36 => if x36 = true then (some (0, 0, 2)) else ((num_down.f x0 x1).bind fun bt104 => ((num_around.f k bt104.2 x1 x2).bind fun bt106 => (if (wrap64 ((wrap64 ((wrap64 (bt106.2.2.1 * x1)) - (wrap64 (bt104.2 * bt106.2.2.2)))) * bt106.2.1)) < (wrap64 ((wrap64 ((wrap64 (bt104.2 * bt106.2.1)) - (wrap64 (bt106.1 * x1)))) * bt106.2.2.2)) then (some (wrap64 (bt106.2.2.1 + (wrap64 (bt104.1 * bt106.2.2.2))), bt106.2.2.2, 0)) else (if (wrap64 ((wrap64 ((wrap64 (bt106.2.2.1 * x1)) - (wrap64 (bt104.2 * bt106.2.2.2)))) * bt106.2.1)) = (wrap64 ((wrap64 ((wrap64 (bt104.2 * bt106.2.1)) - (wrap64 (bt106.1 * x1)))) * bt106.2.2.2)) then (if bt106.2.2.2 < bt106.2.1 then (some (wrap64 (bt106.2.2.1 + (wrap64 (bt104.1 * bt106.2.2.2))), bt106.2.2.2, 0)) else (some (wrap64 (bt106.1 + (wrap64 (bt104.1 * bt106.2.1))), bt106.2.1, 0))) else (some (wrap64 (bt106.1 + (wrap64 (bt104.1 * bt106.2.1))), bt106.2.1, 0))))))
def num_Best.f (k : Nat) (a0 : Int) (a1 : Int) (a2 : Int) : Option (Int × Int × Int) := if a0 < (-1099511627776) then (num_Best.j0 k a0 a1 a2 true) else (if a0 > 1099511627776 then (num_Best.j0 k a0 a1 a2 true) else (if a1 < 1 then (num_Best.j0 k a0 a1 a2 true) else (if a1 > 1099511627776 then (num_Best.j0 k a0 a1 a2 true) else (if a2 < 1 then (num_Best.j0 k a0 a1 a2 true) else (num_Best.j0 k a0 a1 a2 (decide (a2 > 1048576)))))))
theorem num_Best.mono_l : ∀ k, (∀ y0 y1 y2 y3, LeO (num_Best.j0 k y0 y1 y2 y3) (num_Best.j0 (k + 1) y0 y1 y2 y3))
  | 0 => fun _ _ _ _ r h => by simp [num_Best.j0] at h
  | k + 1 => by
    have ih0 := num_Best.mono_l k
    · intro y0 y1 y2 y3
      unfold num_Best.j0
      repeat' first
      | (with_reducible exact ih0 _ _ _ _)
      | (with_reducible exact num_around.mono _ _ _ _)
      | (with_reducible exact LeO.refl _)
      | (with_reducible exact LeO.none _)
      | (with_reducible refine LeO.ite ?_ ?_)
      | (with_reducible refine LeO.bind ?_ (fun _ => ?_))
      | exact ih0 _ _ _ _
      | exact num_around.mono _ _ _ _
      | exact LeO.none _
      | refine LeO.ite ?_ ?_
      | refine LeO.bind ?_ (fun _ => ?_)
theorem num_Best.mono : ∀ a0 a1 a2 k, LeO (num_Best.f k a0 a1 a2) (num_Best.f (k + 1) a0 a1 a2) := by
  intro a0 a1 a2 k
  have ih0 := num_Best.mono_l k
  unfold num_Best.f
  repeat' first
      | (with_reducible exact ih0 _ _ _ _)
      | (with_reducible exact num_around.mono _ _ _ _)
      | (with_reducible exact LeO.refl _)
      | (with_reducible exact LeO.none _)
      | (with_reducible refine LeO.ite ?_ ?_)
      | (with_reducible refine LeO.bind ?_ (fun _ => ?_))
      | exact ih0 _ _ _ _
      | exact num_around.mono _ _ _ _
      | exact LeO.none _
      | refine LeO.ite ?_ ?_
      | refine LeO.bind ?_ (fun _ => ?_)
set_option maxHeartbeats 8000000 in
set_option maxRecDepth 100000 in
theorem num_Best.calls (k : Nat) (a0 : Int) (a1 : Int) (a2 : Int) (r1 : Int) (r2 : Int) (r3 : Int) (w : World) (h : num_Best.f k a0 a1 a2 = some (r1, r2, r3)) :
    Calls Tryd.prog 19 #[.int .i64 a0, .int .i64 a1, .int .i64 a2] w fun e w' => e = .returned (.tuple #[.agg #[.int .i64 r1, .int .i64 r2], .int .i64 r3]) ∧ Below w.heap.size w w' := by
  have hu23 := Tryd.underlying23
  have HB := Aside0.mk (Below.refl w.heap.size w)
  have H : (if a0 < (-1099511627776) then (num_Best.j0 k a0 a1 a2 true) else (if a0 > 1099511627776 then (num_Best.j0 k a0 a1 a2 true) else (if a1 < 1 then (num_Best.j0 k a0 a1 a2 true) else (if a1 > 1099511627776 then (num_Best.j0 k a0 a1 a2 true) else (if a2 < 1 then (num_Best.j0 k a0 a1 a2 true) else (num_Best.j0 k a0 a1 a2 (decide (a2 > 1048576)))))))) = some (r1, r2, r3) := h
  clear h
  have HC4 := Aside0.mk H
  clear H
  go_enter Tryd.func19, Tryd.ntmps19
  go_upto_region 1 with (first | ((with_reducible refine gate_dst (N := 6) rfl ?_); refine box_event ?hg (N := 6) ?hd (cs := #[.int .i64 0, .int .i64 0]) (t := 23) ?hr ?_; (case hd => rfl); (case hg => rfl); (case hr => first | (go_simp; done) | (go_simp; rfl)); intro gb103 hg w5 hbox hb; have n0_ := Aside0.mk (below_step (q0_ HB.out) hb); have n1_ := Aside0.mk (hbox); have n2_ := Aside0.mk ((by rw [hg]; exact (below_size (q0_ HB.out)) : w.heap.size ≤ gb103)); have n3_ := Aside0.mk ((by rw [hg]; exact (below_size (q0_ HB.out)) : w.heap.size ≤ gb103)); clear HB; have HB := n0_; have BK103 := n1_; have GW103 := n2_; have GE103 := n3_; clear n0_ n1_ n2_ n3_; clear hb hbox hg))
  (try simp only [Act.put, List.setIfInBounds_toArray, List.set_cons_zero, List.set_cons_succ])
  go_cut [36] (fun v36 wc => ∃ (kq : Nat) (x36_3 : Bool), v36 = .bool x36_3 ∧ Aside0 (num_Best.j0 kq a0 a1 a2 x36_3 = some (r1, r2, r3)) ∧ Aside0 (kq ≤ k) ∧ Aside0 (wc.heap[gb103]? = some (.cells #[.int .i64 0, .int .i64 0] 23 (0, 0))) ∧ Aside0 (Below w.heap.size w wc))
  case first =>
    have H := HC4.out
    clear HC4
    by_cases c6 : a0 < (-1099511627776)
    · rw [if_pos c6] at H
      have c6b0 : decide (a0 < (-1099511627776)) = true := decide_eq_true c6
      clear c6
      (first | rw [c6b0] | (simp only [i64_w, i32_w]; rw [c6b0]) | skip)
      have H' := Aside0.mk H
      clear H
      go_wp2
      go_meet
      case rel => exact ⟨_, (true), (by first | rfl | (simp; done) | (simp [*]; done)), H', ⟨by first | omega | exact Nat.le_refl _⟩, ⟨by (with_reducible repeat (first | refine blk_drewN ?_ _ | refine blk_drew ?_ | refine blk_alloc ?_ _)); exact BK103.out⟩, ⟨(q1_ HB.out GE103.out)⟩⟩
    · rw [if_neg c6] at H
      have c6b0 : decide (a0 < (-1099511627776)) = false := decide_eq_false c6
      clear c6
      (first | rw [c6b0] | (simp only [i64_w, i32_w]; rw [c6b0]) | skip)
      by_cases c7 : a0 > 1099511627776
      · rw [if_pos c7] at H
        have c7b0 : decide (1099511627776 < a0) = true := decide_eq_true c7
        clear c7
        have H' := Aside0.mk H
        clear H
        go_wp2
        go_meet
        case rel => exact ⟨_, (true), (by first | rfl | (simp; done) | (simp [*]; done)), H', ⟨by first | omega | exact Nat.le_refl _⟩, ⟨by (with_reducible repeat (first | refine blk_drewN ?_ _ | refine blk_drew ?_ | refine blk_alloc ?_ _)); exact BK103.out⟩, ⟨(q1_ HB.out GE103.out)⟩⟩
      · rw [if_neg c7] at H
        have c7b0 : decide (1099511627776 < a0) = false := decide_eq_false c7
        clear c7
        by_cases c8 : a1 < 1
        · rw [if_pos c8] at H
          have c8b0 : decide (a1 < 1) = true := decide_eq_true c8
          clear c8
          have H' := Aside0.mk H
          clear H
          go_wp2
          go_meet
          case rel => exact ⟨_, (true), (by first | rfl | (simp; done) | (simp [*]; done)), H', ⟨by first | omega | exact Nat.le_refl _⟩, ⟨by (with_reducible repeat (first | refine blk_drewN ?_ _ | refine blk_drew ?_ | refine blk_alloc ?_ _)); exact BK103.out⟩, ⟨(q1_ HB.out GE103.out)⟩⟩
        · rw [if_neg c8] at H
          have c8b0 : decide (a1 < 1) = false := decide_eq_false c8
          clear c8
          by_cases c9 : a1 > 1099511627776
          · rw [if_pos c9] at H
            have c9b0 : decide (1099511627776 < a1) = true := decide_eq_true c9
            clear c9
            have H' := Aside0.mk H
            clear H
            go_wp2
            go_meet
            case rel => exact ⟨_, (true), (by first | rfl | (simp; done) | (simp [*]; done)), H', ⟨by first | omega | exact Nat.le_refl _⟩, ⟨by (with_reducible repeat (first | refine blk_drewN ?_ _ | refine blk_drew ?_ | refine blk_alloc ?_ _)); exact BK103.out⟩, ⟨(q1_ HB.out GE103.out)⟩⟩
          · rw [if_neg c9] at H
            have c9b0 : decide (1099511627776 < a1) = false := decide_eq_false c9
            clear c9
            by_cases c10 : a2 < 1
            · rw [if_pos c10] at H
              have c10b0 : decide (a2 < 1) = true := decide_eq_true c10
              clear c10
              have H' := Aside0.mk H
              clear H
              go_wp2
              go_meet
              case rel => exact ⟨_, (true), (by first | rfl | (simp; done) | (simp [*]; done)), H', ⟨by first | omega | exact Nat.le_refl _⟩, ⟨by (with_reducible repeat (first | refine blk_drewN ?_ _ | refine blk_drew ?_ | refine blk_alloc ?_ _)); exact BK103.out⟩, ⟨(q1_ HB.out GE103.out)⟩⟩
            · rw [if_neg c10] at H
              have c10b0 : decide (a2 < 1) = false := decide_eq_false c10
              clear c10
              have H' := Aside0.mk H
              clear H
              go_wp2
              go_meet
              case rel => exact ⟨_, (decide (a2 > 1048576)), (by first | rfl | (simp; done) | (simp [*]; done)), H', ⟨by first | omega | exact Nat.le_refl _⟩, ⟨by (with_reducible repeat (first | refine blk_drewN ?_ _ | refine blk_drew ?_ | refine blk_alloc ?_ _)); exact BK103.out⟩, ⟨(q1_ HB.out GE103.out)⟩⟩
  case rest =>
    clear HC4
    try clear c1
    try clear p2
    try clear c6
    try clear c6b0
    try clear c7
    try clear c7b0
    try clear c8
    try clear c8b0
    try clear c9
    try clear c9b0
    try clear c10
    try clear c10b0
    obtain ⟨kq, x36_3, rfl, HA, HJ3, BK103, HB⟩ := hcut
    cases kq with
    | zero => exact absurd HA.out (by simp [num_Best.j0])
    | succ kj3 =>
      have H := HA.out
      clear HA
      simp only [num_Best.j0] at H
      by_cases c11 : x36_3 = true
      · subst c11
        have H1 : (some (0, 0, 2)) = some (r1, r2, r3) := by rw [if_pos rfl] at H; exact H
        clear H
        have H := H1
        clear H1
        simp only [Option.some.injEq, Prod.mk.injEq] at H
        obtain ⟨rfl, rfl, rfl⟩ := H
        have hcz12_0 : wc.cell? ⟨gb103, 0, none⟩ = some (.int .i64 0) := (blk_cell BK103.out 0).trans rfl
        have hcz12_1 : wc.cell? ⟨gb103, 1, none⟩ = some (.int .i64 0) := (blk_cell BK103.out 1).trans rfl
        have hfz12_0 := blk_frozen BK103.out 0
        have hfz12_1 := blk_frozen BK103.out 1
        go_wp2
        refine bodyPost_ret (results_ct rfl _ _ gb103 23 #[.int .i64 0, .int .i64 0] (0, 0) _ rfl (by (with_reducible repeat (first | refine blk_drewN ?_ _ | refine blk_drew ?_ | refine blk_alloc ?_ _)); refine blk_put (cs := #[.int .i64 0, .int .i64 0]) ?_ 1 _ rfl; (with_reducible repeat (first | refine blk_drewN ?_ _ | refine blk_drew ?_ | refine blk_alloc ?_ _)); refine blk_put (cs := #[.int .i64 0, .int .i64 0]) ?_ 0 _ rfl; (with_reducible repeat (first | refine blk_drewN ?_ _ | refine blk_drew ?_ | refine blk_alloc ?_ _)); exact BK103.out) Tryd.underlying23 rfl (by kernel_rfl)) rfl ?_
        exact ⟨by first | rfl | (simp [errW_none, errW_some] <;> rfl) | (simp [*, errW_none, errW_some] <;> rfl), (q1_ HB.out GE103.out)⟩
      · replace c11 := Bool.eq_false_iff.mpr c11
        subst c11
        have H1 : ((num_down.f a0 a1).bind fun bt104 => ((num_around.f kj3 bt104.2 a1 a2).bind fun bt106 => (if (wrap64 ((wrap64 ((wrap64 (bt106.2.2.1 * a1)) - (wrap64 (bt104.2 * bt106.2.2.2)))) * bt106.2.1)) < (wrap64 ((wrap64 ((wrap64 (bt104.2 * bt106.2.1)) - (wrap64 (bt106.1 * a1)))) * bt106.2.2.2)) then (some (wrap64 (bt106.2.2.1 + (wrap64 (bt104.1 * bt106.2.2.2))), bt106.2.2.2, 0)) else (if (wrap64 ((wrap64 ((wrap64 (bt106.2.2.1 * a1)) - (wrap64 (bt104.2 * bt106.2.2.2)))) * bt106.2.1)) = (wrap64 ((wrap64 ((wrap64 (bt104.2 * bt106.2.1)) - (wrap64 (bt106.1 * a1)))) * bt106.2.2.2)) then (if bt106.2.2.2 < bt106.2.1 then (some (wrap64 (bt106.2.2.1 + (wrap64 (bt104.1 * bt106.2.2.2))), bt106.2.2.2, 0)) else (some (wrap64 (bt106.1 + (wrap64 (bt104.1 * bt106.2.1))), bt106.2.1, 0))) else (some (wrap64 (bt106.1 + (wrap64 (bt104.1 * bt106.2.1))), bt106.2.1, 0)))))) = some (r1, r2, r3) := by rw [if_neg (show ¬ (false = true) by decide)] at H; exact H
        clear H
        have H := H1
        clear H1
        replace H := Option.bind_eq_some_iff.mp H
        obtain ⟨⟨t104, t105⟩, A130, H⟩ := H
        replace H : ((num_around.f kj3 t105 a1 a2).bind fun bt106 => (if (wrap64 ((wrap64 ((wrap64 (bt106.2.2.1 * a1)) - (wrap64 (t105 * bt106.2.2.2)))) * bt106.2.1)) < (wrap64 ((wrap64 ((wrap64 (t105 * bt106.2.1)) - (wrap64 (bt106.1 * a1)))) * bt106.2.2.2)) then (some (wrap64 (bt106.2.2.1 + (wrap64 (t104 * bt106.2.2.2))), bt106.2.2.2, 0)) else (if (wrap64 ((wrap64 ((wrap64 (bt106.2.2.1 * a1)) - (wrap64 (t105 * bt106.2.2.2)))) * bt106.2.1)) = (wrap64 ((wrap64 ((wrap64 (t105 * bt106.2.1)) - (wrap64 (bt106.1 * a1)))) * bt106.2.2.2)) then (if bt106.2.2.2 < bt106.2.1 then (some (wrap64 (bt106.2.2.1 + (wrap64 (t104 * bt106.2.2.2))), bt106.2.2.2, 0)) else (some (wrap64 (bt106.1 + (wrap64 (t104 * bt106.2.1))), bt106.2.1, 0))) else (some (wrap64 (bt106.1 + (wrap64 (t104 * bt106.2.1))), bt106.2.1, 0))))) = some (r1, r2, r3) := H
        have A13 := Aside0.mk A130
        clear A130
        replace H := Option.bind_eq_some_iff.mp H
        obtain ⟨⟨t106, t107, t108, t109⟩, A140, H⟩ := H
        replace H : (if (wrap64 ((wrap64 ((wrap64 (t108 * a1)) - (wrap64 (t105 * t109)))) * t107)) < (wrap64 ((wrap64 ((wrap64 (t105 * t107)) - (wrap64 (t106 * a1)))) * t109)) then (some (wrap64 (t108 + (wrap64 (t104 * t109))), t109, 0)) else (if (wrap64 ((wrap64 ((wrap64 (t108 * a1)) - (wrap64 (t105 * t109)))) * t107)) = (wrap64 ((wrap64 ((wrap64 (t105 * t107)) - (wrap64 (t106 * a1)))) * t109)) then (if t109 < t107 then (some (wrap64 (t108 + (wrap64 (t104 * t109))), t109, 0)) else (some (wrap64 (t106 + (wrap64 (t104 * t107))), t107, 0))) else (some (wrap64 (t106 + (wrap64 (t104 * t107))), t107, 0)))) = some (r1, r2, r3) := H
        have A14 := Aside0.mk A140
        clear A140
        by_cases c15 : (wrap64 ((wrap64 ((wrap64 (t108 * a1)) - (wrap64 (t105 * t109)))) * t107)) < (wrap64 ((wrap64 ((wrap64 (t105 * t107)) - (wrap64 (t106 * a1)))) * t109))
        · rw [if_pos c15] at H
          have c15b0 : decide ((wrap64 ((wrap64 ((wrap64 (t108 * a1)) - (wrap64 (t105 * t109)))) * t107)) < (wrap64 ((wrap64 ((wrap64 (t105 * t107)) - (wrap64 (t106 * a1)))) * t109))) = true := decide_eq_true c15
          clear c15
          simp only [Option.some.injEq, Prod.mk.injEq] at H
          obtain ⟨rfl, rfl, rfl⟩ := H
          go_upto_region 10 with (first | ((with_reducible refine gate_callee (f := 70) rfl ?_); refine goesL_ (some 41) rfl rfl Tryd.func70 (by kernel_rfl) rfl #[.int .i64 a0, .int .i64 a1] rfl qe_ ?_; (with_reducible refine (num_down.calls a0 a1 t104 t105 _ A13.out).mono ?_); rintro e w' ⟨rfl, ⟨nd, rfl⟩⟩; refine ⟨_, rfl, ?_⟩; (try (rw [drewN_self wc]; generalize hq_ : World.drewN wc _ = wc; have n0_ : Aside0 (wc.heap[gb103]? = some (.cells #[.int .i64 0, .int .i64 0] 23 (0, 0))) := ⟨by rw [← hq_]; exact (qb_ BK103.out)⟩; have n1_ : Aside0 (Below w.heap.size w wc) := ⟨by rw [← hq_]; exact (q1_ HB.out GE103.out)⟩; clear BK103 HB hq_; have BK103 := n0_; have HB := n1_; clear n0_ n1_))) | ((with_reducible refine gate_callee (f := 71) rfl ?_); refine goesL_ (some 48) rfl rfl Tryd.func71 (by kernel_rfl) rfl #[.int .i64 t105, .int .i64 a1, .int .i64 a2] rfl qe_ ?_; (with_reducible refine (num_around.calls kj3 t105 a1 a2 t106 t107 t108 t109 _ A14.out).mono ?_); rintro e w16 ⟨rfl, hb⟩; refine ⟨_, rfl, ?_⟩; have n0_ := Aside0.mk (blk_below (g := gb103) (o := .cells #[.int .i64 0, .int .i64 0] 23 (0, 0)) (qb_ BK103.out) hb); have n1_ := Aside0.mk (below_step (q1_ HB.out GE103.out) hb); clear BK103; clear HB; have BK103 := n0_; have HB := n1_; clear n0_ n1_; (try clear hb); (try clear hb2); (try clear hk); (try clear hi)) | ((with_reducible refine gate_dst (N := 10) rfl ?_); refine box_event ?hg (N := 10) ?hd (cs := #[.int .i64 0, .int .i64 0]) (t := 23) ?hr ?_; (case hd => rfl); (case hg => rfl); (case hr => first | (go_simp; done) | (go_simp; rfl)); intro gb110 hg w17 hbox hb; have n0_ := Aside0.mk (blk_below (g := gb103) (o := .cells #[.int .i64 0, .int .i64 0] 23 (0, 0)) (qb_ BK103.out) hb); have n1_ := Aside0.mk (below_step (q1_ HB.out GE103.out) hb); have n2_ := Aside0.mk (hbox); have n3_ := Aside0.mk ((by rw [hg]; exact (below_size (q1_ HB.out GE103.out)) : w.heap.size ≤ gb110)); have n4_ := Aside0.mk ((by rw [hg]; exact (below_size (q1_ HB.out GE103.out)) : w.heap.size ≤ gb110)); have n5_ := Aside0.mk ((by rw [hg]; exact Nat.ne_of_lt (blk_lt (g := gb103) (o := .cells #[.int .i64 0, .int .i64 0] 23 (0, 0)) (qb_ BK103.out)) : gb103 ≠ gb110)); have n6_ := Aside0.mk ((by rw [hg]; exact Nat.ne_of_gt (blk_lt (g := gb103) (o := .cells #[.int .i64 0, .int .i64 0] 23 (0, 0)) (qb_ BK103.out)) : gb110 ≠ gb103)); clear BK103; clear HB; have BK103 := n0_; have HB := n1_; have BK110 := n2_; have GW110 := n3_; have GE110 := n4_; have NB103_110 := n5_; have NB110_103 := n6_; clear n0_ n1_ n2_ n3_ n4_ n5_ n6_; clear hb hbox hg) | ((with_reducible refine gate_dst (N := 11) rfl ?_); refine box_event ?hg (N := 11) ?hd (cs := #[.int .i64 0, .int .i64 0]) (t := 23) ?hr ?_; (case hd => rfl); (case hg => rfl); (case hr => first | (go_simp; done) | (go_simp; rfl)); intro gb111 hg w18 hbox hb; have n0_ := Aside0.mk (blk_below (g := gb103) (o := .cells #[.int .i64 0, .int .i64 0] 23 (0, 0)) (qb_ BK103.out) hb); have n1_ := Aside0.mk (blk_below (g := gb110) (o := .cells #[.int .i64 0, .int .i64 0] 23 (0, 0)) (qb_ BK110.out) hb); have n2_ := Aside0.mk (below_step (q2_ HB.out GE103.out GE110.out) hb); have n3_ := Aside0.mk (hbox); have n4_ := Aside0.mk ((by rw [hg]; exact (below_size (q2_ HB.out GE103.out GE110.out)) : w.heap.size ≤ gb111)); have n5_ := Aside0.mk ((by rw [hg]; exact (below_size (q2_ HB.out GE103.out GE110.out)) : w.heap.size ≤ gb111)); have n6_ := Aside0.mk ((by rw [hg]; exact Nat.ne_of_lt (blk_lt (g := gb103) (o := .cells #[.int .i64 0, .int .i64 0] 23 (0, 0)) (qb_ BK103.out)) : gb103 ≠ gb111)); have n7_ := Aside0.mk ((by rw [hg]; exact Nat.ne_of_gt (blk_lt (g := gb103) (o := .cells #[.int .i64 0, .int .i64 0] 23 (0, 0)) (qb_ BK103.out)) : gb111 ≠ gb103)); have n8_ := Aside0.mk ((by rw [hg]; exact Nat.ne_of_lt (blk_lt (g := gb110) (o := .cells #[.int .i64 0, .int .i64 0] 23 (0, 0)) (qb_ BK110.out)) : gb110 ≠ gb111)); have n9_ := Aside0.mk ((by rw [hg]; exact Nat.ne_of_gt (blk_lt (g := gb110) (o := .cells #[.int .i64 0, .int .i64 0] 23 (0, 0)) (qb_ BK110.out)) : gb111 ≠ gb110)); clear BK103; clear BK110; clear HB; have BK103 := n0_; have BK110 := n1_; have HB := n2_; have BK111 := n3_; have GW111 := n4_; have GE111 := n5_; have NB103_111 := n6_; have NB111_103 := n7_; have NB110_111 := n8_; have NB111_110 := n9_; clear n0_ n1_ n2_ n3_ n4_ n5_ n6_ n7_ n8_ n9_; clear hb hbox hg; have hnb19 := NB110_103.out; have hnc19 := NB103_110.out; have hnb20 := NB110_111.out; have hnc20 := NB111_110.out; have hcz21_0 : w18.cell? ⟨gb110, 0, none⟩ = some (.int .i64 0) := (blk_cell BK110.out 0).trans rfl; have hcz21_1 : w18.cell? ⟨gb110, 1, none⟩ = some (.int .i64 0) := (blk_cell BK110.out 1).trans rfl; have hfz21_0 := blk_frozen BK110.out 0; have hfz21_1 := blk_frozen BK110.out 1; have hnb22 := NB111_103.out; have hnc22 := NB103_111.out; have hcz23_0 : w18.cell? ⟨gb111, 0, none⟩ = some (.int .i64 0) := (blk_cell BK111.out 0).trans rfl; have hcz23_1 : w18.cell? ⟨gb111, 1, none⟩ = some (.int .i64 0) := (blk_cell BK111.out 1).trans rfl; have hfz23_0 := blk_frozen BK111.out 0; have hfz23_1 := blk_frozen BK111.out 1) | ((with_reducible refine gate_dst (N := 14) rfl ?_); refine box_event ?hg (N := 14) ?hd (cs := #[.int .i64 0, .int .i64 0]) (t := 23) ?hr ?_; (case hd => rfl); (case hg => rfl); (case hr => first | (go_simp; done) | (go_simp; rfl)); intro gb112 hg w24 hbox hb; have n0_ := Aside0.mk (blk_below (g := gb103) (o := .cells #[.int .i64 0, .int .i64 0] 23 (0, 0)) (by (with_reducible repeat (first | refine blk_drewN ?_ _ | refine blk_drew ?_ | refine blk_alloc ?_ _)); refine blk_far ?_ NB103_111.out _; (with_reducible repeat (first | refine blk_drewN ?_ _ | refine blk_drew ?_ | refine blk_alloc ?_ _)); refine blk_far ?_ NB103_111.out _; (with_reducible repeat (first | refine blk_drewN ?_ _ | refine blk_drew ?_ | refine blk_alloc ?_ _)); refine blk_far ?_ NB103_110.out _; (with_reducible repeat (first | refine blk_drewN ?_ _ | refine blk_drew ?_ | refine blk_alloc ?_ _)); refine blk_far ?_ NB103_110.out _; (with_reducible repeat (first | refine blk_drewN ?_ _ | refine blk_drew ?_ | refine blk_alloc ?_ _)); exact BK103.out) hb); have n1_ := Aside0.mk (blk_below (g := gb110) (o := .cells #[.int .i64 t106, .int .i64 t107] 23 (0, 0)) (by (with_reducible repeat (first | refine blk_drewN ?_ _ | refine blk_drew ?_ | refine blk_alloc ?_ _)); refine blk_far ?_ NB110_111.out _; (with_reducible repeat (first | refine blk_drewN ?_ _ | refine blk_drew ?_ | refine blk_alloc ?_ _)); refine blk_far ?_ NB110_111.out _; (with_reducible repeat (first | refine blk_drewN ?_ _ | refine blk_drew ?_ | refine blk_alloc ?_ _)); refine blk_put (cs := #[.int .i64 t106, .int .i64 0]) ?_ 1 _ rfl; (with_reducible repeat (first | refine blk_drewN ?_ _ | refine blk_drew ?_ | refine blk_alloc ?_ _)); refine blk_put (cs := #[.int .i64 0, .int .i64 0]) ?_ 0 _ rfl; (with_reducible repeat (first | refine blk_drewN ?_ _ | refine blk_drew ?_ | refine blk_alloc ?_ _)); exact BK110.out) hb); have n2_ := Aside0.mk (blk_below (g := gb111) (o := .cells #[.int .i64 t108, .int .i64 t109] 23 (0, 0)) (by (with_reducible repeat (first | refine blk_drewN ?_ _ | refine blk_drew ?_ | refine blk_alloc ?_ _)); refine blk_put (cs := #[.int .i64 t108, .int .i64 0]) ?_ 1 _ rfl; (with_reducible repeat (first | refine blk_drewN ?_ _ | refine blk_drew ?_ | refine blk_alloc ?_ _)); refine blk_put (cs := #[.int .i64 0, .int .i64 0]) ?_ 0 _ rfl; (with_reducible repeat (first | refine blk_drewN ?_ _ | refine blk_drew ?_ | refine blk_alloc ?_ _)); refine blk_far ?_ NB111_110.out _; (with_reducible repeat (first | refine blk_drewN ?_ _ | refine blk_drew ?_ | refine blk_alloc ?_ _)); refine blk_far ?_ NB111_110.out _; (with_reducible repeat (first | refine blk_drewN ?_ _ | refine blk_drew ?_ | refine blk_alloc ?_ _)); exact BK111.out) hb); have n3_ := Aside0.mk (below_step (q3_ HB.out GE103.out GE110.out GE111.out) hb); have n4_ := Aside0.mk (hbox); have n5_ := Aside0.mk ((by rw [hg]; exact (below_size (q3_ HB.out GE103.out GE110.out GE111.out)) : w.heap.size ≤ gb112)); have n6_ := Aside0.mk ((by rw [hg]; exact (below_size (q3_ HB.out GE103.out GE110.out GE111.out)) : w.heap.size ≤ gb112)); have n7_ := Aside0.mk ((by rw [hg]; exact Nat.ne_of_lt (blk_lt (g := gb103) (o := .cells #[.int .i64 0, .int .i64 0] 23 (0, 0)) (by (with_reducible repeat (first | refine blk_drewN ?_ _ | refine blk_drew ?_ | refine blk_alloc ?_ _)); refine blk_far ?_ NB103_111.out _; (with_reducible repeat (first | refine blk_drewN ?_ _ | refine blk_drew ?_ | refine blk_alloc ?_ _)); refine blk_far ?_ NB103_111.out _; (with_reducible repeat (first | refine blk_drewN ?_ _ | refine blk_drew ?_ | refine blk_alloc ?_ _)); refine blk_far ?_ NB103_110.out _; (with_reducible repeat (first | refine blk_drewN ?_ _ | refine blk_drew ?_ | refine blk_alloc ?_ _)); refine blk_far ?_ NB103_110.out _; (with_reducible repeat (first | refine blk_drewN ?_ _ | refine blk_drew ?_ | refine blk_alloc ?_ _)); exact BK103.out)) : gb103 ≠ gb112)); have n8_ := Aside0.mk ((by rw [hg]; exact Nat.ne_of_gt (blk_lt (g := gb103) (o := .cells #[.int .i64 0, .int .i64 0] 23 (0, 0)) (by (with_reducible repeat (first | refine blk_drewN ?_ _ | refine blk_drew ?_ | refine blk_alloc ?_ _)); refine blk_far ?_ NB103_111.out _; (with_reducible repeat (first | refine blk_drewN ?_ _ | refine blk_drew ?_ | refine blk_alloc ?_ _)); refine blk_far ?_ NB103_111.out _; (with_reducible repeat (first | refine blk_drewN ?_ _ | refine blk_drew ?_ | refine blk_alloc ?_ _)); refine blk_far ?_ NB103_110.out _; (with_reducible repeat (first | refine blk_drewN ?_ _ | refine blk_drew ?_ | refine blk_alloc ?_ _)); refine blk_far ?_ NB103_110.out _; (with_reducible repeat (first | refine blk_drewN ?_ _ | refine blk_drew ?_ | refine blk_alloc ?_ _)); exact BK103.out)) : gb112 ≠ gb103)); have n9_ := Aside0.mk ((by rw [hg]; exact Nat.ne_of_lt (blk_lt (g := gb110) (o := .cells #[.int .i64 t106, .int .i64 t107] 23 (0, 0)) (by (with_reducible repeat (first | refine blk_drewN ?_ _ | refine blk_drew ?_ | refine blk_alloc ?_ _)); refine blk_far ?_ NB110_111.out _; (with_reducible repeat (first | refine blk_drewN ?_ _ | refine blk_drew ?_ | refine blk_alloc ?_ _)); refine blk_far ?_ NB110_111.out _; (with_reducible repeat (first | refine blk_drewN ?_ _ | refine blk_drew ?_ | refine blk_alloc ?_ _)); refine blk_put (cs := #[.int .i64 t106, .int .i64 0]) ?_ 1 _ rfl; (with_reducible repeat (first | refine blk_drewN ?_ _ | refine blk_drew ?_ | refine blk_alloc ?_ _)); refine blk_put (cs := #[.int .i64 0, .int .i64 0]) ?_ 0 _ rfl; (with_reducible repeat (first | refine blk_drewN ?_ _ | refine blk_drew ?_ | refine blk_alloc ?_ _)); exact BK110.out)) : gb110 ≠ gb112)); have n10_ := Aside0.mk ((by rw [hg]; exact Nat.ne_of_gt (blk_lt (g := gb110) (o := .cells #[.int .i64 t106, .int .i64 t107] 23 (0, 0)) (by (with_reducible repeat (first | refine blk_drewN ?_ _ | refine blk_drew ?_ | refine blk_alloc ?_ _)); refine blk_far ?_ NB110_111.out _; (with_reducible repeat (first | refine blk_drewN ?_ _ | refine blk_drew ?_ | refine blk_alloc ?_ _)); refine blk_far ?_ NB110_111.out _; (with_reducible repeat (first | refine blk_drewN ?_ _ | refine blk_drew ?_ | refine blk_alloc ?_ _)); refine blk_put (cs := #[.int .i64 t106, .int .i64 0]) ?_ 1 _ rfl; (with_reducible repeat (first | refine blk_drewN ?_ _ | refine blk_drew ?_ | refine blk_alloc ?_ _)); refine blk_put (cs := #[.int .i64 0, .int .i64 0]) ?_ 0 _ rfl; (with_reducible repeat (first | refine blk_drewN ?_ _ | refine blk_drew ?_ | refine blk_alloc ?_ _)); exact BK110.out)) : gb112 ≠ gb110)); have n11_ := Aside0.mk ((by rw [hg]; exact Nat.ne_of_lt (blk_lt (g := gb111) (o := .cells #[.int .i64 t108, .int .i64 t109] 23 (0, 0)) (by (with_reducible repeat (first | refine blk_drewN ?_ _ | refine blk_drew ?_ | refine blk_alloc ?_ _)); refine blk_put (cs := #[.int .i64 t108, .int .i64 0]) ?_ 1 _ rfl; (with_reducible repeat (first | refine blk_drewN ?_ _ | refine blk_drew ?_ | refine blk_alloc ?_ _)); refine blk_put (cs := #[.int .i64 0, .int .i64 0]) ?_ 0 _ rfl; (with_reducible repeat (first | refine blk_drewN ?_ _ | refine blk_drew ?_ | refine blk_alloc ?_ _)); refine blk_far ?_ NB111_110.out _; (with_reducible repeat (first | refine blk_drewN ?_ _ | refine blk_drew ?_ | refine blk_alloc ?_ _)); refine blk_far ?_ NB111_110.out _; (with_reducible repeat (first | refine blk_drewN ?_ _ | refine blk_drew ?_ | refine blk_alloc ?_ _)); exact BK111.out)) : gb111 ≠ gb112)); have n12_ := Aside0.mk ((by rw [hg]; exact Nat.ne_of_gt (blk_lt (g := gb111) (o := .cells #[.int .i64 t108, .int .i64 t109] 23 (0, 0)) (by (with_reducible repeat (first | refine blk_drewN ?_ _ | refine blk_drew ?_ | refine blk_alloc ?_ _)); refine blk_put (cs := #[.int .i64 t108, .int .i64 0]) ?_ 1 _ rfl; (with_reducible repeat (first | refine blk_drewN ?_ _ | refine blk_drew ?_ | refine blk_alloc ?_ _)); refine blk_put (cs := #[.int .i64 0, .int .i64 0]) ?_ 0 _ rfl; (with_reducible repeat (first | refine blk_drewN ?_ _ | refine blk_drew ?_ | refine blk_alloc ?_ _)); refine blk_far ?_ NB111_110.out _; (with_reducible repeat (first | refine blk_drewN ?_ _ | refine blk_drew ?_ | refine blk_alloc ?_ _)); refine blk_far ?_ NB111_110.out _; (with_reducible repeat (first | refine blk_drewN ?_ _ | refine blk_drew ?_ | refine blk_alloc ?_ _)); exact BK111.out)) : gb112 ≠ gb111)); clear BK103; clear BK110; clear BK111; clear HB; have BK103 := n0_; have BK110 := n1_; have BK111 := n2_; have HB := n3_; have BK112 := n4_; have GW112 := n5_; have GE112 := n6_; have NB103_112 := n7_; have NB112_103 := n8_; have NB110_112 := n9_; have NB112_110 := n10_; have NB111_112 := n11_; have NB112_111 := n12_; clear n0_ n1_ n2_ n3_ n4_ n5_ n6_ n7_ n8_ n9_ n10_ n11_ n12_; clear hb hbox hg; have hnb25 := NB112_103.out; have hnc25 := NB103_112.out; have hnb26 := NB112_110.out; have hnc26 := NB110_112.out; have hnb27 := NB112_111.out; have hnc27 := NB111_112.out; have hcz28_0 : w24.cell? ⟨gb112, 0, none⟩ = some (.int .i64 0) := (blk_cell BK112.out 0).trans rfl; have hcz28_1 : w24.cell? ⟨gb112, 1, none⟩ = some (.int .i64 0) := (blk_cell BK112.out 1).trans rfl; have hfz28_0 := blk_frozen BK112.out 0; have hfz28_1 := blk_frozen BK112.out 1; have hcz29_0 : w24.cell? ⟨gb111, 0, none⟩ = some (.int .i64 t108) := (blk_cell BK111.out 0).trans rfl; have hcz29_1 : w24.cell? ⟨gb111, 1, none⟩ = some (.int .i64 t109) := (blk_cell BK111.out 1).trans rfl; have hfz29_0 := blk_frozen BK111.out 0; have hfz29_1 := blk_frozen BK111.out 1; have hcz30_0 : w24.cell? ⟨gb103, 0, none⟩ = some (.int .i64 0) := (blk_cell BK103.out 0).trans rfl; have hcz30_1 : w24.cell? ⟨gb103, 1, none⟩ = some (.int .i64 0) := (blk_cell BK103.out 1).trans rfl; have hfz30_0 := blk_frozen BK103.out 0; have hfz30_1 := blk_frozen BK103.out 1))
          have hX_ : ((((w24.setCell ⟨gb112, 0, none⟩ (.int .i64 t106)).setCell ⟨gb112, 1, none⟩ (.int .i64 t107)).setCell ⟨gb112, 0, none⟩ (.int .i64 t108)).setCell ⟨gb112, 1, none⟩ (.int .i64 t109)).heap[gb112]? = some (.cells #[.int .i64 t108, .int .i64 t109] 23 (0, 0)) := blk_put (cs := #[.int .i64 t108, .int .i64 t107]) (blk_put (cs := #[.int .i64 t106, .int .i64 t107]) (blk_put (cs := #[.int .i64 t106, .int .i64 0]) (blk_put (cs := #[.int .i64 0, .int .i64 0]) BK112.out 0 _ rfl) 1 _ rfl) 0 _ rfl) 1 _ rfl
          have hX0_ := (blk_cell hX_ 0).trans rfl
          have hX1_ := (blk_cell hX_ 1).trans rfl
          have hXf0_ := blk_frozen hX_ 0
          have hXf1_ := blk_frozen hX_ 1
          clear hX_
          go_wp2
          refine bodyPost_ret (results_ct rfl _ _ gb103 23 #[.int .i64 (wrap64 (t108 + (wrap64 (t104 * t109)))), .int .i64 t109] (0, 0) _ rfl (by (with_reducible repeat (first | refine blk_drewN ?_ _ | refine blk_drew ?_ | refine blk_alloc ?_ _)); refine blk_put (cs := #[.int .i64 (wrap64 (t108 + (wrap64 (t104 * t109)))), .int .i64 0]) ?_ 1 _ rfl; (with_reducible repeat (first | refine blk_drewN ?_ _ | refine blk_drew ?_ | refine blk_alloc ?_ _)); refine blk_put (cs := #[.int .i64 0, .int .i64 0]) ?_ 0 _ rfl; (with_reducible repeat (first | refine blk_drewN ?_ _ | refine blk_drew ?_ | refine blk_alloc ?_ _)); refine blk_far ?_ NB103_112.out _; (with_reducible repeat (first | refine blk_drewN ?_ _ | refine blk_drew ?_ | refine blk_alloc ?_ _)); refine blk_far ?_ NB103_112.out _; (with_reducible repeat (first | refine blk_drewN ?_ _ | refine blk_drew ?_ | refine blk_alloc ?_ _)); refine blk_far ?_ NB103_112.out _; (with_reducible repeat (first | refine blk_drewN ?_ _ | refine blk_drew ?_ | refine blk_alloc ?_ _)); refine blk_far ?_ NB103_112.out _; (with_reducible repeat (first | refine blk_drewN ?_ _ | refine blk_drew ?_ | refine blk_alloc ?_ _)); refine blk_far ?_ NB103_112.out _; (with_reducible repeat (first | refine blk_drewN ?_ _ | refine blk_drew ?_ | refine blk_alloc ?_ _)); exact BK103.out) Tryd.underlying23 rfl (by kernel_rfl)) rfl ?_
          exact ⟨by first | rfl | (simp [errW_none, errW_some] <;> rfl) | (simp [*, errW_none, errW_some] <;> rfl), (q4_ HB.out GE103.out GE110.out GE111.out GE112.out)⟩
        · rw [if_neg c15] at H
          have c15b0 : decide ((wrap64 ((wrap64 ((wrap64 (t108 * a1)) - (wrap64 (t105 * t109)))) * t107)) < (wrap64 ((wrap64 ((wrap64 (t105 * t107)) - (wrap64 (t106 * a1)))) * t109))) = false := decide_eq_false c15
          clear c15
          by_cases c31 : (wrap64 ((wrap64 ((wrap64 (t108 * a1)) - (wrap64 (t105 * t109)))) * t107)) = (wrap64 ((wrap64 ((wrap64 (t105 * t107)) - (wrap64 (t106 * a1)))) * t109))
          · rw [if_pos c31] at H
            have c31b0 : ((wrap64 ((wrap64 ((wrap64 (t108 * a1)) - (wrap64 (t105 * t109)))) * t107)) == (wrap64 ((wrap64 ((wrap64 (t105 * t107)) - (wrap64 (t106 * a1)))) * t109))) = true := beq_iff_eq.mpr c31
            have c31b1 : ((wrap64 ((wrap64 ((wrap64 (t108 * a1)) - (wrap64 (t105 * t109)))) * t107)) != (wrap64 ((wrap64 ((wrap64 (t105 * t107)) - (wrap64 (t106 * a1)))) * t109))) = false := bne_eq_false_iff_eq.mpr c31
            clear c31
            by_cases c32 : t109 < t107
            · rw [if_pos c32] at H
              have c32b0 : decide (t109 < t107) = true := decide_eq_true c32
              clear c32
              simp only [Option.some.injEq, Prod.mk.injEq] at H
              obtain ⟨rfl, rfl, rfl⟩ := H
              go_upto_region 10 with (first | ((with_reducible refine gate_callee (f := 70) rfl ?_); refine goesL_ (some 41) rfl rfl Tryd.func70 (by kernel_rfl) rfl #[.int .i64 a0, .int .i64 a1] rfl qe_ ?_; (with_reducible refine (num_down.calls a0 a1 t104 t105 _ A13.out).mono ?_); rintro e w' ⟨rfl, ⟨nd, rfl⟩⟩; refine ⟨_, rfl, ?_⟩; (try (rw [drewN_self wc]; generalize hq_ : World.drewN wc _ = wc; have n0_ : Aside0 (wc.heap[gb103]? = some (.cells #[.int .i64 0, .int .i64 0] 23 (0, 0))) := ⟨by rw [← hq_]; exact (qb_ BK103.out)⟩; have n1_ : Aside0 (Below w.heap.size w wc) := ⟨by rw [← hq_]; exact (q1_ HB.out GE103.out)⟩; clear BK103 HB hq_; have BK103 := n0_; have HB := n1_; clear n0_ n1_))) | ((with_reducible refine gate_callee (f := 71) rfl ?_); refine goesL_ (some 48) rfl rfl Tryd.func71 (by kernel_rfl) rfl #[.int .i64 t105, .int .i64 a1, .int .i64 a2] rfl qe_ ?_; (with_reducible refine (num_around.calls kj3 t105 a1 a2 t106 t107 t108 t109 _ A14.out).mono ?_); rintro e w33 ⟨rfl, hb⟩; refine ⟨_, rfl, ?_⟩; have n0_ := Aside0.mk (blk_below (g := gb103) (o := .cells #[.int .i64 0, .int .i64 0] 23 (0, 0)) (qb_ BK103.out) hb); have n1_ := Aside0.mk (below_step (q1_ HB.out GE103.out) hb); clear BK103; clear HB; have BK103 := n0_; have HB := n1_; clear n0_ n1_; (try clear hb); (try clear hb2); (try clear hk); (try clear hi)) | ((with_reducible refine gate_dst (N := 10) rfl ?_); refine box_event ?hg (N := 10) ?hd (cs := #[.int .i64 0, .int .i64 0]) (t := 23) ?hr ?_; (case hd => rfl); (case hg => rfl); (case hr => first | (go_simp; done) | (go_simp; rfl)); intro gb110 hg w34 hbox hb; have n0_ := Aside0.mk (blk_below (g := gb103) (o := .cells #[.int .i64 0, .int .i64 0] 23 (0, 0)) (qb_ BK103.out) hb); have n1_ := Aside0.mk (below_step (q1_ HB.out GE103.out) hb); have n2_ := Aside0.mk (hbox); have n3_ := Aside0.mk ((by rw [hg]; exact (below_size (q1_ HB.out GE103.out)) : w.heap.size ≤ gb110)); have n4_ := Aside0.mk ((by rw [hg]; exact (below_size (q1_ HB.out GE103.out)) : w.heap.size ≤ gb110)); have n5_ := Aside0.mk ((by rw [hg]; exact Nat.ne_of_lt (blk_lt (g := gb103) (o := .cells #[.int .i64 0, .int .i64 0] 23 (0, 0)) (qb_ BK103.out)) : gb103 ≠ gb110)); have n6_ := Aside0.mk ((by rw [hg]; exact Nat.ne_of_gt (blk_lt (g := gb103) (o := .cells #[.int .i64 0, .int .i64 0] 23 (0, 0)) (qb_ BK103.out)) : gb110 ≠ gb103)); clear BK103; clear HB; have BK103 := n0_; have HB := n1_; have BK110 := n2_; have GW110 := n3_; have GE110 := n4_; have NB103_110 := n5_; have NB110_103 := n6_; clear n0_ n1_ n2_ n3_ n4_ n5_ n6_; clear hb hbox hg) | ((with_reducible refine gate_dst (N := 11) rfl ?_); refine box_event ?hg (N := 11) ?hd (cs := #[.int .i64 0, .int .i64 0]) (t := 23) ?hr ?_; (case hd => rfl); (case hg => rfl); (case hr => first | (go_simp; done) | (go_simp; rfl)); intro gb111 hg w35 hbox hb; have n0_ := Aside0.mk (blk_below (g := gb103) (o := .cells #[.int .i64 0, .int .i64 0] 23 (0, 0)) (qb_ BK103.out) hb); have n1_ := Aside0.mk (blk_below (g := gb110) (o := .cells #[.int .i64 0, .int .i64 0] 23 (0, 0)) (qb_ BK110.out) hb); have n2_ := Aside0.mk (below_step (q2_ HB.out GE103.out GE110.out) hb); have n3_ := Aside0.mk (hbox); have n4_ := Aside0.mk ((by rw [hg]; exact (below_size (q2_ HB.out GE103.out GE110.out)) : w.heap.size ≤ gb111)); have n5_ := Aside0.mk ((by rw [hg]; exact (below_size (q2_ HB.out GE103.out GE110.out)) : w.heap.size ≤ gb111)); have n6_ := Aside0.mk ((by rw [hg]; exact Nat.ne_of_lt (blk_lt (g := gb103) (o := .cells #[.int .i64 0, .int .i64 0] 23 (0, 0)) (qb_ BK103.out)) : gb103 ≠ gb111)); have n7_ := Aside0.mk ((by rw [hg]; exact Nat.ne_of_gt (blk_lt (g := gb103) (o := .cells #[.int .i64 0, .int .i64 0] 23 (0, 0)) (qb_ BK103.out)) : gb111 ≠ gb103)); have n8_ := Aside0.mk ((by rw [hg]; exact Nat.ne_of_lt (blk_lt (g := gb110) (o := .cells #[.int .i64 0, .int .i64 0] 23 (0, 0)) (qb_ BK110.out)) : gb110 ≠ gb111)); have n9_ := Aside0.mk ((by rw [hg]; exact Nat.ne_of_gt (blk_lt (g := gb110) (o := .cells #[.int .i64 0, .int .i64 0] 23 (0, 0)) (qb_ BK110.out)) : gb111 ≠ gb110)); clear BK103; clear BK110; clear HB; have BK103 := n0_; have BK110 := n1_; have HB := n2_; have BK111 := n3_; have GW111 := n4_; have GE111 := n5_; have NB103_111 := n6_; have NB111_103 := n7_; have NB110_111 := n8_; have NB111_110 := n9_; clear n0_ n1_ n2_ n3_ n4_ n5_ n6_ n7_ n8_ n9_; clear hb hbox hg; have hnb36 := NB110_103.out; have hnc36 := NB103_110.out; have hnb37 := NB110_111.out; have hnc37 := NB111_110.out; have hcz38_0 : w35.cell? ⟨gb110, 0, none⟩ = some (.int .i64 0) := (blk_cell BK110.out 0).trans rfl; have hcz38_1 : w35.cell? ⟨gb110, 1, none⟩ = some (.int .i64 0) := (blk_cell BK110.out 1).trans rfl; have hfz38_0 := blk_frozen BK110.out 0; have hfz38_1 := blk_frozen BK110.out 1; have hnb39 := NB111_103.out; have hnc39 := NB103_111.out; have hcz40_0 : w35.cell? ⟨gb111, 0, none⟩ = some (.int .i64 0) := (blk_cell BK111.out 0).trans rfl; have hcz40_1 : w35.cell? ⟨gb111, 1, none⟩ = some (.int .i64 0) := (blk_cell BK111.out 1).trans rfl; have hfz40_0 := blk_frozen BK111.out 0; have hfz40_1 := blk_frozen BK111.out 1) | ((with_reducible refine gate_dst (N := 14) rfl ?_); refine box_event ?hg (N := 14) ?hd (cs := #[.int .i64 0, .int .i64 0]) (t := 23) ?hr ?_; (case hd => rfl); (case hg => rfl); (case hr => first | (go_simp; done) | (go_simp; rfl)); intro gb112 hg w41 hbox hb; have n0_ := Aside0.mk (blk_below (g := gb103) (o := .cells #[.int .i64 0, .int .i64 0] 23 (0, 0)) (by (with_reducible repeat (first | refine blk_drewN ?_ _ | refine blk_drew ?_ | refine blk_alloc ?_ _)); refine blk_far ?_ NB103_111.out _; (with_reducible repeat (first | refine blk_drewN ?_ _ | refine blk_drew ?_ | refine blk_alloc ?_ _)); refine blk_far ?_ NB103_111.out _; (with_reducible repeat (first | refine blk_drewN ?_ _ | refine blk_drew ?_ | refine blk_alloc ?_ _)); refine blk_far ?_ NB103_110.out _; (with_reducible repeat (first | refine blk_drewN ?_ _ | refine blk_drew ?_ | refine blk_alloc ?_ _)); refine blk_far ?_ NB103_110.out _; (with_reducible repeat (first | refine blk_drewN ?_ _ | refine blk_drew ?_ | refine blk_alloc ?_ _)); exact BK103.out) hb); have n1_ := Aside0.mk (blk_below (g := gb110) (o := .cells #[.int .i64 t106, .int .i64 t107] 23 (0, 0)) (by (with_reducible repeat (first | refine blk_drewN ?_ _ | refine blk_drew ?_ | refine blk_alloc ?_ _)); refine blk_far ?_ NB110_111.out _; (with_reducible repeat (first | refine blk_drewN ?_ _ | refine blk_drew ?_ | refine blk_alloc ?_ _)); refine blk_far ?_ NB110_111.out _; (with_reducible repeat (first | refine blk_drewN ?_ _ | refine blk_drew ?_ | refine blk_alloc ?_ _)); refine blk_put (cs := #[.int .i64 t106, .int .i64 0]) ?_ 1 _ rfl; (with_reducible repeat (first | refine blk_drewN ?_ _ | refine blk_drew ?_ | refine blk_alloc ?_ _)); refine blk_put (cs := #[.int .i64 0, .int .i64 0]) ?_ 0 _ rfl; (with_reducible repeat (first | refine blk_drewN ?_ _ | refine blk_drew ?_ | refine blk_alloc ?_ _)); exact BK110.out) hb); have n2_ := Aside0.mk (blk_below (g := gb111) (o := .cells #[.int .i64 t108, .int .i64 t109] 23 (0, 0)) (by (with_reducible repeat (first | refine blk_drewN ?_ _ | refine blk_drew ?_ | refine blk_alloc ?_ _)); refine blk_put (cs := #[.int .i64 t108, .int .i64 0]) ?_ 1 _ rfl; (with_reducible repeat (first | refine blk_drewN ?_ _ | refine blk_drew ?_ | refine blk_alloc ?_ _)); refine blk_put (cs := #[.int .i64 0, .int .i64 0]) ?_ 0 _ rfl; (with_reducible repeat (first | refine blk_drewN ?_ _ | refine blk_drew ?_ | refine blk_alloc ?_ _)); refine blk_far ?_ NB111_110.out _; (with_reducible repeat (first | refine blk_drewN ?_ _ | refine blk_drew ?_ | refine blk_alloc ?_ _)); refine blk_far ?_ NB111_110.out _; (with_reducible repeat (first | refine blk_drewN ?_ _ | refine blk_drew ?_ | refine blk_alloc ?_ _)); exact BK111.out) hb); have n3_ := Aside0.mk (below_step (q3_ HB.out GE103.out GE110.out GE111.out) hb); have n4_ := Aside0.mk (hbox); have n5_ := Aside0.mk ((by rw [hg]; exact (below_size (q3_ HB.out GE103.out GE110.out GE111.out)) : w.heap.size ≤ gb112)); have n6_ := Aside0.mk ((by rw [hg]; exact (below_size (q3_ HB.out GE103.out GE110.out GE111.out)) : w.heap.size ≤ gb112)); have n7_ := Aside0.mk ((by rw [hg]; exact Nat.ne_of_lt (blk_lt (g := gb103) (o := .cells #[.int .i64 0, .int .i64 0] 23 (0, 0)) (by (with_reducible repeat (first | refine blk_drewN ?_ _ | refine blk_drew ?_ | refine blk_alloc ?_ _)); refine blk_far ?_ NB103_111.out _; (with_reducible repeat (first | refine blk_drewN ?_ _ | refine blk_drew ?_ | refine blk_alloc ?_ _)); refine blk_far ?_ NB103_111.out _; (with_reducible repeat (first | refine blk_drewN ?_ _ | refine blk_drew ?_ | refine blk_alloc ?_ _)); refine blk_far ?_ NB103_110.out _; (with_reducible repeat (first | refine blk_drewN ?_ _ | refine blk_drew ?_ | refine blk_alloc ?_ _)); refine blk_far ?_ NB103_110.out _; (with_reducible repeat (first | refine blk_drewN ?_ _ | refine blk_drew ?_ | refine blk_alloc ?_ _)); exact BK103.out)) : gb103 ≠ gb112)); have n8_ := Aside0.mk ((by rw [hg]; exact Nat.ne_of_gt (blk_lt (g := gb103) (o := .cells #[.int .i64 0, .int .i64 0] 23 (0, 0)) (by (with_reducible repeat (first | refine blk_drewN ?_ _ | refine blk_drew ?_ | refine blk_alloc ?_ _)); refine blk_far ?_ NB103_111.out _; (with_reducible repeat (first | refine blk_drewN ?_ _ | refine blk_drew ?_ | refine blk_alloc ?_ _)); refine blk_far ?_ NB103_111.out _; (with_reducible repeat (first | refine blk_drewN ?_ _ | refine blk_drew ?_ | refine blk_alloc ?_ _)); refine blk_far ?_ NB103_110.out _; (with_reducible repeat (first | refine blk_drewN ?_ _ | refine blk_drew ?_ | refine blk_alloc ?_ _)); refine blk_far ?_ NB103_110.out _; (with_reducible repeat (first | refine blk_drewN ?_ _ | refine blk_drew ?_ | refine blk_alloc ?_ _)); exact BK103.out)) : gb112 ≠ gb103)); have n9_ := Aside0.mk ((by rw [hg]; exact Nat.ne_of_lt (blk_lt (g := gb110) (o := .cells #[.int .i64 t106, .int .i64 t107] 23 (0, 0)) (by (with_reducible repeat (first | refine blk_drewN ?_ _ | refine blk_drew ?_ | refine blk_alloc ?_ _)); refine blk_far ?_ NB110_111.out _; (with_reducible repeat (first | refine blk_drewN ?_ _ | refine blk_drew ?_ | refine blk_alloc ?_ _)); refine blk_far ?_ NB110_111.out _; (with_reducible repeat (first | refine blk_drewN ?_ _ | refine blk_drew ?_ | refine blk_alloc ?_ _)); refine blk_put (cs := #[.int .i64 t106, .int .i64 0]) ?_ 1 _ rfl; (with_reducible repeat (first | refine blk_drewN ?_ _ | refine blk_drew ?_ | refine blk_alloc ?_ _)); refine blk_put (cs := #[.int .i64 0, .int .i64 0]) ?_ 0 _ rfl; (with_reducible repeat (first | refine blk_drewN ?_ _ | refine blk_drew ?_ | refine blk_alloc ?_ _)); exact BK110.out)) : gb110 ≠ gb112)); have n10_ := Aside0.mk ((by rw [hg]; exact Nat.ne_of_gt (blk_lt (g := gb110) (o := .cells #[.int .i64 t106, .int .i64 t107] 23 (0, 0)) (by (with_reducible repeat (first | refine blk_drewN ?_ _ | refine blk_drew ?_ | refine blk_alloc ?_ _)); refine blk_far ?_ NB110_111.out _; (with_reducible repeat (first | refine blk_drewN ?_ _ | refine blk_drew ?_ | refine blk_alloc ?_ _)); refine blk_far ?_ NB110_111.out _; (with_reducible repeat (first | refine blk_drewN ?_ _ | refine blk_drew ?_ | refine blk_alloc ?_ _)); refine blk_put (cs := #[.int .i64 t106, .int .i64 0]) ?_ 1 _ rfl; (with_reducible repeat (first | refine blk_drewN ?_ _ | refine blk_drew ?_ | refine blk_alloc ?_ _)); refine blk_put (cs := #[.int .i64 0, .int .i64 0]) ?_ 0 _ rfl; (with_reducible repeat (first | refine blk_drewN ?_ _ | refine blk_drew ?_ | refine blk_alloc ?_ _)); exact BK110.out)) : gb112 ≠ gb110)); have n11_ := Aside0.mk ((by rw [hg]; exact Nat.ne_of_lt (blk_lt (g := gb111) (o := .cells #[.int .i64 t108, .int .i64 t109] 23 (0, 0)) (by (with_reducible repeat (first | refine blk_drewN ?_ _ | refine blk_drew ?_ | refine blk_alloc ?_ _)); refine blk_put (cs := #[.int .i64 t108, .int .i64 0]) ?_ 1 _ rfl; (with_reducible repeat (first | refine blk_drewN ?_ _ | refine blk_drew ?_ | refine blk_alloc ?_ _)); refine blk_put (cs := #[.int .i64 0, .int .i64 0]) ?_ 0 _ rfl; (with_reducible repeat (first | refine blk_drewN ?_ _ | refine blk_drew ?_ | refine blk_alloc ?_ _)); refine blk_far ?_ NB111_110.out _; (with_reducible repeat (first | refine blk_drewN ?_ _ | refine blk_drew ?_ | refine blk_alloc ?_ _)); refine blk_far ?_ NB111_110.out _; (with_reducible repeat (first | refine blk_drewN ?_ _ | refine blk_drew ?_ | refine blk_alloc ?_ _)); exact BK111.out)) : gb111 ≠ gb112)); have n12_ := Aside0.mk ((by rw [hg]; exact Nat.ne_of_gt (blk_lt (g := gb111) (o := .cells #[.int .i64 t108, .int .i64 t109] 23 (0, 0)) (by (with_reducible repeat (first | refine blk_drewN ?_ _ | refine blk_drew ?_ | refine blk_alloc ?_ _)); refine blk_put (cs := #[.int .i64 t108, .int .i64 0]) ?_ 1 _ rfl; (with_reducible repeat (first | refine blk_drewN ?_ _ | refine blk_drew ?_ | refine blk_alloc ?_ _)); refine blk_put (cs := #[.int .i64 0, .int .i64 0]) ?_ 0 _ rfl; (with_reducible repeat (first | refine blk_drewN ?_ _ | refine blk_drew ?_ | refine blk_alloc ?_ _)); refine blk_far ?_ NB111_110.out _; (with_reducible repeat (first | refine blk_drewN ?_ _ | refine blk_drew ?_ | refine blk_alloc ?_ _)); refine blk_far ?_ NB111_110.out _; (with_reducible repeat (first | refine blk_drewN ?_ _ | refine blk_drew ?_ | refine blk_alloc ?_ _)); exact BK111.out)) : gb112 ≠ gb111)); clear BK103; clear BK110; clear BK111; clear HB; have BK103 := n0_; have BK110 := n1_; have BK111 := n2_; have HB := n3_; have BK112 := n4_; have GW112 := n5_; have GE112 := n6_; have NB103_112 := n7_; have NB112_103 := n8_; have NB110_112 := n9_; have NB112_110 := n10_; have NB111_112 := n11_; have NB112_111 := n12_; clear n0_ n1_ n2_ n3_ n4_ n5_ n6_ n7_ n8_ n9_ n10_ n11_ n12_; clear hb hbox hg; have hnb42 := NB112_103.out; have hnc42 := NB103_112.out; have hnb43 := NB112_110.out; have hnc43 := NB110_112.out; have hnb44 := NB112_111.out; have hnc44 := NB111_112.out; have hcz45_0 : w41.cell? ⟨gb112, 0, none⟩ = some (.int .i64 0) := (blk_cell BK112.out 0).trans rfl; have hcz45_1 : w41.cell? ⟨gb112, 1, none⟩ = some (.int .i64 0) := (blk_cell BK112.out 1).trans rfl; have hfz45_0 := blk_frozen BK112.out 0; have hfz45_1 := blk_frozen BK112.out 1; have hcz46_0 : w41.cell? ⟨gb111, 0, none⟩ = some (.int .i64 t108) := (blk_cell BK111.out 0).trans rfl; have hcz46_1 : w41.cell? ⟨gb111, 1, none⟩ = some (.int .i64 t109) := (blk_cell BK111.out 1).trans rfl; have hfz46_0 := blk_frozen BK111.out 0; have hfz46_1 := blk_frozen BK111.out 1; have hcz47_0 : w41.cell? ⟨gb110, 0, none⟩ = some (.int .i64 t106) := (blk_cell BK110.out 0).trans rfl; have hcz47_1 : w41.cell? ⟨gb110, 1, none⟩ = some (.int .i64 t107) := (blk_cell BK110.out 1).trans rfl; have hfz47_0 := blk_frozen BK110.out 0; have hfz47_1 := blk_frozen BK110.out 1; have hcz48_0 : w41.cell? ⟨gb103, 0, none⟩ = some (.int .i64 0) := (blk_cell BK103.out 0).trans rfl; have hcz48_1 : w41.cell? ⟨gb103, 1, none⟩ = some (.int .i64 0) := (blk_cell BK103.out 1).trans rfl; have hfz48_0 := blk_frozen BK103.out 0; have hfz48_1 := blk_frozen BK103.out 1))
              have hX_ : ((((w41.setCell ⟨gb112, 0, none⟩ (.int .i64 t106)).setCell ⟨gb112, 1, none⟩ (.int .i64 t107)).setCell ⟨gb112, 0, none⟩ (.int .i64 t108)).setCell ⟨gb112, 1, none⟩ (.int .i64 t109)).heap[gb112]? = some (.cells #[.int .i64 t108, .int .i64 t109] 23 (0, 0)) := blk_put (cs := #[.int .i64 t108, .int .i64 t107]) (blk_put (cs := #[.int .i64 t106, .int .i64 t107]) (blk_put (cs := #[.int .i64 t106, .int .i64 0]) (blk_put (cs := #[.int .i64 0, .int .i64 0]) BK112.out 0 _ rfl) 1 _ rfl) 0 _ rfl) 1 _ rfl
              have hX0_ := (blk_cell hX_ 0).trans rfl
              have hX1_ := (blk_cell hX_ 1).trans rfl
              have hXf0_ := blk_frozen hX_ 0
              have hXf1_ := blk_frozen hX_ 1
              clear hX_
              go_wp2
              refine bodyPost_ret (results_ct rfl _ _ gb103 23 #[.int .i64 (wrap64 (t108 + (wrap64 (t104 * t109)))), .int .i64 t109] (0, 0) _ rfl (by (with_reducible repeat (first | refine blk_drewN ?_ _ | refine blk_drew ?_ | refine blk_alloc ?_ _)); refine blk_put (cs := #[.int .i64 (wrap64 (t108 + (wrap64 (t104 * t109)))), .int .i64 0]) ?_ 1 _ rfl; (with_reducible repeat (first | refine blk_drewN ?_ _ | refine blk_drew ?_ | refine blk_alloc ?_ _)); refine blk_put (cs := #[.int .i64 0, .int .i64 0]) ?_ 0 _ rfl; (with_reducible repeat (first | refine blk_drewN ?_ _ | refine blk_drew ?_ | refine blk_alloc ?_ _)); refine blk_far ?_ NB103_112.out _; (with_reducible repeat (first | refine blk_drewN ?_ _ | refine blk_drew ?_ | refine blk_alloc ?_ _)); refine blk_far ?_ NB103_112.out _; (with_reducible repeat (first | refine blk_drewN ?_ _ | refine blk_drew ?_ | refine blk_alloc ?_ _)); refine blk_far ?_ NB103_112.out _; (with_reducible repeat (first | refine blk_drewN ?_ _ | refine blk_drew ?_ | refine blk_alloc ?_ _)); refine blk_far ?_ NB103_112.out _; (with_reducible repeat (first | refine blk_drewN ?_ _ | refine blk_drew ?_ | refine blk_alloc ?_ _)); refine blk_far ?_ NB103_112.out _; (with_reducible repeat (first | refine blk_drewN ?_ _ | refine blk_drew ?_ | refine blk_alloc ?_ _)); exact BK103.out) Tryd.underlying23 rfl (by kernel_rfl)) rfl ?_
              exact ⟨by first | rfl | (simp [errW_none, errW_some] <;> rfl) | (simp [*, errW_none, errW_some] <;> rfl), (q4_ HB.out GE103.out GE110.out GE111.out GE112.out)⟩
            · rw [if_neg c32] at H
              have c32b0 : decide (t109 < t107) = false := decide_eq_false c32
              clear c32
              simp only [Option.some.injEq, Prod.mk.injEq] at H
              obtain ⟨rfl, rfl, rfl⟩ := H
              go_wp2_with (first | ((with_reducible refine gate_callee (f := 70) rfl ?_); refine goesL_ (some 41) rfl rfl Tryd.func70 (by kernel_rfl) rfl #[.int .i64 a0, .int .i64 a1] rfl qe_ ?_; (with_reducible refine (num_down.calls a0 a1 t104 t105 _ A13.out).mono ?_); rintro e w' ⟨rfl, ⟨nd, rfl⟩⟩; refine ⟨_, rfl, ?_⟩; (try (rw [drewN_self wc]; generalize hq_ : World.drewN wc _ = wc; have n0_ : Aside0 (wc.heap[gb103]? = some (.cells #[.int .i64 0, .int .i64 0] 23 (0, 0))) := ⟨by rw [← hq_]; exact (qb_ BK103.out)⟩; have n1_ : Aside0 (Below w.heap.size w wc) := ⟨by rw [← hq_]; exact (q1_ HB.out GE103.out)⟩; clear BK103 HB hq_; have BK103 := n0_; have HB := n1_; clear n0_ n1_))) | ((with_reducible refine gate_callee (f := 71) rfl ?_); refine goesL_ (some 48) rfl rfl Tryd.func71 (by kernel_rfl) rfl #[.int .i64 t105, .int .i64 a1, .int .i64 a2] rfl qe_ ?_; (with_reducible refine (num_around.calls kj3 t105 a1 a2 t106 t107 t108 t109 _ A14.out).mono ?_); rintro e w49 ⟨rfl, hb⟩; refine ⟨_, rfl, ?_⟩; have n0_ := Aside0.mk (blk_below (g := gb103) (o := .cells #[.int .i64 0, .int .i64 0] 23 (0, 0)) (qb_ BK103.out) hb); have n1_ := Aside0.mk (below_step (q1_ HB.out GE103.out) hb); clear BK103; clear HB; have BK103 := n0_; have HB := n1_; clear n0_ n1_; (try clear hb); (try clear hb2); (try clear hk); (try clear hi)) | ((with_reducible refine gate_dst (N := 10) rfl ?_); refine box_event ?hg (N := 10) ?hd (cs := #[.int .i64 0, .int .i64 0]) (t := 23) ?hr ?_; (case hd => rfl); (case hg => rfl); (case hr => first | (go_simp; done) | (go_simp; rfl)); intro gb110 hg w50 hbox hb; have n0_ := Aside0.mk (blk_below (g := gb103) (o := .cells #[.int .i64 0, .int .i64 0] 23 (0, 0)) (qb_ BK103.out) hb); have n1_ := Aside0.mk (below_step (q1_ HB.out GE103.out) hb); have n2_ := Aside0.mk (hbox); have n3_ := Aside0.mk ((by rw [hg]; exact (below_size (q1_ HB.out GE103.out)) : w.heap.size ≤ gb110)); have n4_ := Aside0.mk ((by rw [hg]; exact (below_size (q1_ HB.out GE103.out)) : w.heap.size ≤ gb110)); have n5_ := Aside0.mk ((by rw [hg]; exact Nat.ne_of_lt (blk_lt (g := gb103) (o := .cells #[.int .i64 0, .int .i64 0] 23 (0, 0)) (qb_ BK103.out)) : gb103 ≠ gb110)); have n6_ := Aside0.mk ((by rw [hg]; exact Nat.ne_of_gt (blk_lt (g := gb103) (o := .cells #[.int .i64 0, .int .i64 0] 23 (0, 0)) (qb_ BK103.out)) : gb110 ≠ gb103)); clear BK103; clear HB; have BK103 := n0_; have HB := n1_; have BK110 := n2_; have GW110 := n3_; have GE110 := n4_; have NB103_110 := n5_; have NB110_103 := n6_; clear n0_ n1_ n2_ n3_ n4_ n5_ n6_; clear hb hbox hg) | ((with_reducible refine gate_dst (N := 11) rfl ?_); refine box_event ?hg (N := 11) ?hd (cs := #[.int .i64 0, .int .i64 0]) (t := 23) ?hr ?_; (case hd => rfl); (case hg => rfl); (case hr => first | (go_simp; done) | (go_simp; rfl)); intro gb111 hg w51 hbox hb; have n0_ := Aside0.mk (blk_below (g := gb103) (o := .cells #[.int .i64 0, .int .i64 0] 23 (0, 0)) (qb_ BK103.out) hb); have n1_ := Aside0.mk (blk_below (g := gb110) (o := .cells #[.int .i64 0, .int .i64 0] 23 (0, 0)) (qb_ BK110.out) hb); have n2_ := Aside0.mk (below_step (q2_ HB.out GE103.out GE110.out) hb); have n3_ := Aside0.mk (hbox); have n4_ := Aside0.mk ((by rw [hg]; exact (below_size (q2_ HB.out GE103.out GE110.out)) : w.heap.size ≤ gb111)); have n5_ := Aside0.mk ((by rw [hg]; exact (below_size (q2_ HB.out GE103.out GE110.out)) : w.heap.size ≤ gb111)); have n6_ := Aside0.mk ((by rw [hg]; exact Nat.ne_of_lt (blk_lt (g := gb103) (o := .cells #[.int .i64 0, .int .i64 0] 23 (0, 0)) (qb_ BK103.out)) : gb103 ≠ gb111)); have n7_ := Aside0.mk ((by rw [hg]; exact Nat.ne_of_gt (blk_lt (g := gb103) (o := .cells #[.int .i64 0, .int .i64 0] 23 (0, 0)) (qb_ BK103.out)) : gb111 ≠ gb103)); have n8_ := Aside0.mk ((by rw [hg]; exact Nat.ne_of_lt (blk_lt (g := gb110) (o := .cells #[.int .i64 0, .int .i64 0] 23 (0, 0)) (qb_ BK110.out)) : gb110 ≠ gb111)); have n9_ := Aside0.mk ((by rw [hg]; exact Nat.ne_of_gt (blk_lt (g := gb110) (o := .cells #[.int .i64 0, .int .i64 0] 23 (0, 0)) (qb_ BK110.out)) : gb111 ≠ gb110)); clear BK103; clear BK110; clear HB; have BK103 := n0_; have BK110 := n1_; have HB := n2_; have BK111 := n3_; have GW111 := n4_; have GE111 := n5_; have NB103_111 := n6_; have NB111_103 := n7_; have NB110_111 := n8_; have NB111_110 := n9_; clear n0_ n1_ n2_ n3_ n4_ n5_ n6_ n7_ n8_ n9_; clear hb hbox hg; have hnb52 := NB110_103.out; have hnc52 := NB103_110.out; have hnb53 := NB110_111.out; have hnc53 := NB111_110.out; have hcz54_0 : w51.cell? ⟨gb110, 0, none⟩ = some (.int .i64 0) := (blk_cell BK110.out 0).trans rfl; have hcz54_1 : w51.cell? ⟨gb110, 1, none⟩ = some (.int .i64 0) := (blk_cell BK110.out 1).trans rfl; have hfz54_0 := blk_frozen BK110.out 0; have hfz54_1 := blk_frozen BK110.out 1; have hnb55 := NB111_103.out; have hnc55 := NB103_111.out; have hcz56_0 : w51.cell? ⟨gb111, 0, none⟩ = some (.int .i64 0) := (blk_cell BK111.out 0).trans rfl; have hcz56_1 : w51.cell? ⟨gb111, 1, none⟩ = some (.int .i64 0) := (blk_cell BK111.out 1).trans rfl; have hfz56_0 := blk_frozen BK111.out 0; have hfz56_1 := blk_frozen BK111.out 1) | ((with_reducible refine gate_dst (N := 14) rfl ?_); refine box_event ?hg (N := 14) ?hd (cs := #[.int .i64 0, .int .i64 0]) (t := 23) ?hr ?_; (case hd => rfl); (case hg => rfl); (case hr => first | (go_simp; done) | (go_simp; rfl)); intro gb112 hg w57 hbox hb; have n0_ := Aside0.mk (blk_below (g := gb103) (o := .cells #[.int .i64 0, .int .i64 0] 23 (0, 0)) (by (with_reducible repeat (first | refine blk_drewN ?_ _ | refine blk_drew ?_ | refine blk_alloc ?_ _)); refine blk_far ?_ NB103_111.out _; (with_reducible repeat (first | refine blk_drewN ?_ _ | refine blk_drew ?_ | refine blk_alloc ?_ _)); refine blk_far ?_ NB103_111.out _; (with_reducible repeat (first | refine blk_drewN ?_ _ | refine blk_drew ?_ | refine blk_alloc ?_ _)); refine blk_far ?_ NB103_110.out _; (with_reducible repeat (first | refine blk_drewN ?_ _ | refine blk_drew ?_ | refine blk_alloc ?_ _)); refine blk_far ?_ NB103_110.out _; (with_reducible repeat (first | refine blk_drewN ?_ _ | refine blk_drew ?_ | refine blk_alloc ?_ _)); exact BK103.out) hb); have n1_ := Aside0.mk (blk_below (g := gb110) (o := .cells #[.int .i64 t106, .int .i64 t107] 23 (0, 0)) (by (with_reducible repeat (first | refine blk_drewN ?_ _ | refine blk_drew ?_ | refine blk_alloc ?_ _)); refine blk_far ?_ NB110_111.out _; (with_reducible repeat (first | refine blk_drewN ?_ _ | refine blk_drew ?_ | refine blk_alloc ?_ _)); refine blk_far ?_ NB110_111.out _; (with_reducible repeat (first | refine blk_drewN ?_ _ | refine blk_drew ?_ | refine blk_alloc ?_ _)); refine blk_put (cs := #[.int .i64 t106, .int .i64 0]) ?_ 1 _ rfl; (with_reducible repeat (first | refine blk_drewN ?_ _ | refine blk_drew ?_ | refine blk_alloc ?_ _)); refine blk_put (cs := #[.int .i64 0, .int .i64 0]) ?_ 0 _ rfl; (with_reducible repeat (first | refine blk_drewN ?_ _ | refine blk_drew ?_ | refine blk_alloc ?_ _)); exact BK110.out) hb); have n2_ := Aside0.mk (blk_below (g := gb111) (o := .cells #[.int .i64 t108, .int .i64 t109] 23 (0, 0)) (by (with_reducible repeat (first | refine blk_drewN ?_ _ | refine blk_drew ?_ | refine blk_alloc ?_ _)); refine blk_put (cs := #[.int .i64 t108, .int .i64 0]) ?_ 1 _ rfl; (with_reducible repeat (first | refine blk_drewN ?_ _ | refine blk_drew ?_ | refine blk_alloc ?_ _)); refine blk_put (cs := #[.int .i64 0, .int .i64 0]) ?_ 0 _ rfl; (with_reducible repeat (first | refine blk_drewN ?_ _ | refine blk_drew ?_ | refine blk_alloc ?_ _)); refine blk_far ?_ NB111_110.out _; (with_reducible repeat (first | refine blk_drewN ?_ _ | refine blk_drew ?_ | refine blk_alloc ?_ _)); refine blk_far ?_ NB111_110.out _; (with_reducible repeat (first | refine blk_drewN ?_ _ | refine blk_drew ?_ | refine blk_alloc ?_ _)); exact BK111.out) hb); have n3_ := Aside0.mk (below_step (q3_ HB.out GE103.out GE110.out GE111.out) hb); have n4_ := Aside0.mk (hbox); have n5_ := Aside0.mk ((by rw [hg]; exact (below_size (q3_ HB.out GE103.out GE110.out GE111.out)) : w.heap.size ≤ gb112)); have n6_ := Aside0.mk ((by rw [hg]; exact (below_size (q3_ HB.out GE103.out GE110.out GE111.out)) : w.heap.size ≤ gb112)); have n7_ := Aside0.mk ((by rw [hg]; exact Nat.ne_of_lt (blk_lt (g := gb103) (o := .cells #[.int .i64 0, .int .i64 0] 23 (0, 0)) (by (with_reducible repeat (first | refine blk_drewN ?_ _ | refine blk_drew ?_ | refine blk_alloc ?_ _)); refine blk_far ?_ NB103_111.out _; (with_reducible repeat (first | refine blk_drewN ?_ _ | refine blk_drew ?_ | refine blk_alloc ?_ _)); refine blk_far ?_ NB103_111.out _; (with_reducible repeat (first | refine blk_drewN ?_ _ | refine blk_drew ?_ | refine blk_alloc ?_ _)); refine blk_far ?_ NB103_110.out _; (with_reducible repeat (first | refine blk_drewN ?_ _ | refine blk_drew ?_ | refine blk_alloc ?_ _)); refine blk_far ?_ NB103_110.out _; (with_reducible repeat (first | refine blk_drewN ?_ _ | refine blk_drew ?_ | refine blk_alloc ?_ _)); exact BK103.out)) : gb103 ≠ gb112)); have n8_ := Aside0.mk ((by rw [hg]; exact Nat.ne_of_gt (blk_lt (g := gb103) (o := .cells #[.int .i64 0, .int .i64 0] 23 (0, 0)) (by (with_reducible repeat (first | refine blk_drewN ?_ _ | refine blk_drew ?_ | refine blk_alloc ?_ _)); refine blk_far ?_ NB103_111.out _; (with_reducible repeat (first | refine blk_drewN ?_ _ | refine blk_drew ?_ | refine blk_alloc ?_ _)); refine blk_far ?_ NB103_111.out _; (with_reducible repeat (first | refine blk_drewN ?_ _ | refine blk_drew ?_ | refine blk_alloc ?_ _)); refine blk_far ?_ NB103_110.out _; (with_reducible repeat (first | refine blk_drewN ?_ _ | refine blk_drew ?_ | refine blk_alloc ?_ _)); refine blk_far ?_ NB103_110.out _; (with_reducible repeat (first | refine blk_drewN ?_ _ | refine blk_drew ?_ | refine blk_alloc ?_ _)); exact BK103.out)) : gb112 ≠ gb103)); have n9_ := Aside0.mk ((by rw [hg]; exact Nat.ne_of_lt (blk_lt (g := gb110) (o := .cells #[.int .i64 t106, .int .i64 t107] 23 (0, 0)) (by (with_reducible repeat (first | refine blk_drewN ?_ _ | refine blk_drew ?_ | refine blk_alloc ?_ _)); refine blk_far ?_ NB110_111.out _; (with_reducible repeat (first | refine blk_drewN ?_ _ | refine blk_drew ?_ | refine blk_alloc ?_ _)); refine blk_far ?_ NB110_111.out _; (with_reducible repeat (first | refine blk_drewN ?_ _ | refine blk_drew ?_ | refine blk_alloc ?_ _)); refine blk_put (cs := #[.int .i64 t106, .int .i64 0]) ?_ 1 _ rfl; (with_reducible repeat (first | refine blk_drewN ?_ _ | refine blk_drew ?_ | refine blk_alloc ?_ _)); refine blk_put (cs := #[.int .i64 0, .int .i64 0]) ?_ 0 _ rfl; (with_reducible repeat (first | refine blk_drewN ?_ _ | refine blk_drew ?_ | refine blk_alloc ?_ _)); exact BK110.out)) : gb110 ≠ gb112)); have n10_ := Aside0.mk ((by rw [hg]; exact Nat.ne_of_gt (blk_lt (g := gb110) (o := .cells #[.int .i64 t106, .int .i64 t107] 23 (0, 0)) (by (with_reducible repeat (first | refine blk_drewN ?_ _ | refine blk_drew ?_ | refine blk_alloc ?_ _)); refine blk_far ?_ NB110_111.out _; (with_reducible repeat (first | refine blk_drewN ?_ _ | refine blk_drew ?_ | refine blk_alloc ?_ _)); refine blk_far ?_ NB110_111.out _; (with_reducible repeat (first | refine blk_drewN ?_ _ | refine blk_drew ?_ | refine blk_alloc ?_ _)); refine blk_put (cs := #[.int .i64 t106, .int .i64 0]) ?_ 1 _ rfl; (with_reducible repeat (first | refine blk_drewN ?_ _ | refine blk_drew ?_ | refine blk_alloc ?_ _)); refine blk_put (cs := #[.int .i64 0, .int .i64 0]) ?_ 0 _ rfl; (with_reducible repeat (first | refine blk_drewN ?_ _ | refine blk_drew ?_ | refine blk_alloc ?_ _)); exact BK110.out)) : gb112 ≠ gb110)); have n11_ := Aside0.mk ((by rw [hg]; exact Nat.ne_of_lt (blk_lt (g := gb111) (o := .cells #[.int .i64 t108, .int .i64 t109] 23 (0, 0)) (by (with_reducible repeat (first | refine blk_drewN ?_ _ | refine blk_drew ?_ | refine blk_alloc ?_ _)); refine blk_put (cs := #[.int .i64 t108, .int .i64 0]) ?_ 1 _ rfl; (with_reducible repeat (first | refine blk_drewN ?_ _ | refine blk_drew ?_ | refine blk_alloc ?_ _)); refine blk_put (cs := #[.int .i64 0, .int .i64 0]) ?_ 0 _ rfl; (with_reducible repeat (first | refine blk_drewN ?_ _ | refine blk_drew ?_ | refine blk_alloc ?_ _)); refine blk_far ?_ NB111_110.out _; (with_reducible repeat (first | refine blk_drewN ?_ _ | refine blk_drew ?_ | refine blk_alloc ?_ _)); refine blk_far ?_ NB111_110.out _; (with_reducible repeat (first | refine blk_drewN ?_ _ | refine blk_drew ?_ | refine blk_alloc ?_ _)); exact BK111.out)) : gb111 ≠ gb112)); have n12_ := Aside0.mk ((by rw [hg]; exact Nat.ne_of_gt (blk_lt (g := gb111) (o := .cells #[.int .i64 t108, .int .i64 t109] 23 (0, 0)) (by (with_reducible repeat (first | refine blk_drewN ?_ _ | refine blk_drew ?_ | refine blk_alloc ?_ _)); refine blk_put (cs := #[.int .i64 t108, .int .i64 0]) ?_ 1 _ rfl; (with_reducible repeat (first | refine blk_drewN ?_ _ | refine blk_drew ?_ | refine blk_alloc ?_ _)); refine blk_put (cs := #[.int .i64 0, .int .i64 0]) ?_ 0 _ rfl; (with_reducible repeat (first | refine blk_drewN ?_ _ | refine blk_drew ?_ | refine blk_alloc ?_ _)); refine blk_far ?_ NB111_110.out _; (with_reducible repeat (first | refine blk_drewN ?_ _ | refine blk_drew ?_ | refine blk_alloc ?_ _)); refine blk_far ?_ NB111_110.out _; (with_reducible repeat (first | refine blk_drewN ?_ _ | refine blk_drew ?_ | refine blk_alloc ?_ _)); exact BK111.out)) : gb112 ≠ gb111)); clear BK103; clear BK110; clear BK111; clear HB; have BK103 := n0_; have BK110 := n1_; have BK111 := n2_; have HB := n3_; have BK112 := n4_; have GW112 := n5_; have GE112 := n6_; have NB103_112 := n7_; have NB112_103 := n8_; have NB110_112 := n9_; have NB112_110 := n10_; have NB111_112 := n11_; have NB112_111 := n12_; clear n0_ n1_ n2_ n3_ n4_ n5_ n6_ n7_ n8_ n9_ n10_ n11_ n12_; clear hb hbox hg; have hnb58 := NB112_103.out; have hnc58 := NB103_112.out; have hnb59 := NB112_110.out; have hnc59 := NB110_112.out; have hnb60 := NB112_111.out; have hnc60 := NB111_112.out; have hcz61_0 : w57.cell? ⟨gb112, 0, none⟩ = some (.int .i64 0) := (blk_cell BK112.out 0).trans rfl; have hcz61_1 : w57.cell? ⟨gb112, 1, none⟩ = some (.int .i64 0) := (blk_cell BK112.out 1).trans rfl; have hfz61_0 := blk_frozen BK112.out 0; have hfz61_1 := blk_frozen BK112.out 1; have hcz62_0 : w57.cell? ⟨gb111, 0, none⟩ = some (.int .i64 t108) := (blk_cell BK111.out 0).trans rfl; have hcz62_1 : w57.cell? ⟨gb111, 1, none⟩ = some (.int .i64 t109) := (blk_cell BK111.out 1).trans rfl; have hfz62_0 := blk_frozen BK111.out 0; have hfz62_1 := blk_frozen BK111.out 1; have hcz63_0 : w57.cell? ⟨gb110, 0, none⟩ = some (.int .i64 t106) := (blk_cell BK110.out 0).trans rfl; have hcz63_1 : w57.cell? ⟨gb110, 1, none⟩ = some (.int .i64 t107) := (blk_cell BK110.out 1).trans rfl; have hfz63_0 := blk_frozen BK110.out 0; have hfz63_1 := blk_frozen BK110.out 1; have hcz64_0 : w57.cell? ⟨gb103, 0, none⟩ = some (.int .i64 0) := (blk_cell BK103.out 0).trans rfl; have hcz64_1 : w57.cell? ⟨gb103, 1, none⟩ = some (.int .i64 0) := (blk_cell BK103.out 1).trans rfl; have hfz64_0 := blk_frozen BK103.out 0; have hfz64_1 := blk_frozen BK103.out 1))
              refine bodyPost_ret (results_ct rfl _ _ gb103 23 #[.int .i64 (wrap64 (t106 + (wrap64 (t104 * t107)))), .int .i64 t107] (0, 0) _ rfl (by (with_reducible repeat (first | refine blk_drewN ?_ _ | refine blk_drew ?_ | refine blk_alloc ?_ _)); refine blk_put (cs := #[.int .i64 (wrap64 (t106 + (wrap64 (t104 * t107)))), .int .i64 0]) ?_ 1 _ rfl; (with_reducible repeat (first | refine blk_drewN ?_ _ | refine blk_drew ?_ | refine blk_alloc ?_ _)); refine blk_put (cs := #[.int .i64 0, .int .i64 0]) ?_ 0 _ rfl; (with_reducible repeat (first | refine blk_drewN ?_ _ | refine blk_drew ?_ | refine blk_alloc ?_ _)); refine blk_far ?_ NB103_112.out _; (with_reducible repeat (first | refine blk_drewN ?_ _ | refine blk_drew ?_ | refine blk_alloc ?_ _)); refine blk_far ?_ NB103_112.out _; (with_reducible repeat (first | refine blk_drewN ?_ _ | refine blk_drew ?_ | refine blk_alloc ?_ _)); refine blk_far ?_ NB103_112.out _; (with_reducible repeat (first | refine blk_drewN ?_ _ | refine blk_drew ?_ | refine blk_alloc ?_ _)); exact BK103.out) Tryd.underlying23 rfl (by kernel_rfl)) rfl ?_
              exact ⟨by first | rfl | (simp [errW_none, errW_some] <;> rfl) | (simp [*, errW_none, errW_some] <;> rfl), (q4_ HB.out GE103.out GE110.out GE111.out GE112.out)⟩
          · rw [if_neg c31] at H
            have c31b0 : ((wrap64 ((wrap64 ((wrap64 (t108 * a1)) - (wrap64 (t105 * t109)))) * t107)) == (wrap64 ((wrap64 ((wrap64 (t105 * t107)) - (wrap64 (t106 * a1)))) * t109))) = false := beq_eq_false_iff_ne.mpr c31
            have c31b1 : ((wrap64 ((wrap64 ((wrap64 (t108 * a1)) - (wrap64 (t105 * t109)))) * t107)) != (wrap64 ((wrap64 ((wrap64 (t105 * t107)) - (wrap64 (t106 * a1)))) * t109))) = true := bne_iff_ne.mpr c31
            simp only [Option.some.injEq, Prod.mk.injEq] at H
            obtain ⟨rfl, rfl, rfl⟩ := H
            go_wp2_with (first | ((with_reducible refine gate_callee (f := 70) rfl ?_); refine goesL_ (some 41) rfl rfl Tryd.func70 (by kernel_rfl) rfl #[.int .i64 a0, .int .i64 a1] rfl qe_ ?_; (with_reducible refine (num_down.calls a0 a1 t104 t105 _ A13.out).mono ?_); rintro e w' ⟨rfl, ⟨nd, rfl⟩⟩; refine ⟨_, rfl, ?_⟩; (try (rw [drewN_self wc]; generalize hq_ : World.drewN wc _ = wc; have n0_ : Aside0 (wc.heap[gb103]? = some (.cells #[.int .i64 0, .int .i64 0] 23 (0, 0))) := ⟨by rw [← hq_]; exact (qb_ BK103.out)⟩; have n1_ : Aside0 (Below w.heap.size w wc) := ⟨by rw [← hq_]; exact (q1_ HB.out GE103.out)⟩; clear BK103 HB hq_; have BK103 := n0_; have HB := n1_; clear n0_ n1_))) | ((with_reducible refine gate_callee (f := 71) rfl ?_); refine goesL_ (some 48) rfl rfl Tryd.func71 (by kernel_rfl) rfl #[.int .i64 t105, .int .i64 a1, .int .i64 a2] rfl qe_ ?_; (with_reducible refine (num_around.calls kj3 t105 a1 a2 t106 t107 t108 t109 _ A14.out).mono ?_); rintro e w65 ⟨rfl, hb⟩; refine ⟨_, rfl, ?_⟩; have n0_ := Aside0.mk (blk_below (g := gb103) (o := .cells #[.int .i64 0, .int .i64 0] 23 (0, 0)) (qb_ BK103.out) hb); have n1_ := Aside0.mk (below_step (q1_ HB.out GE103.out) hb); clear BK103; clear HB; have BK103 := n0_; have HB := n1_; clear n0_ n1_; (try clear hb); (try clear hb2); (try clear hk); (try clear hi)) | ((with_reducible refine gate_dst (N := 10) rfl ?_); refine box_event ?hg (N := 10) ?hd (cs := #[.int .i64 0, .int .i64 0]) (t := 23) ?hr ?_; (case hd => rfl); (case hg => rfl); (case hr => first | (go_simp; done) | (go_simp; rfl)); intro gb110 hg w66 hbox hb; have n0_ := Aside0.mk (blk_below (g := gb103) (o := .cells #[.int .i64 0, .int .i64 0] 23 (0, 0)) (qb_ BK103.out) hb); have n1_ := Aside0.mk (below_step (q1_ HB.out GE103.out) hb); have n2_ := Aside0.mk (hbox); have n3_ := Aside0.mk ((by rw [hg]; exact (below_size (q1_ HB.out GE103.out)) : w.heap.size ≤ gb110)); have n4_ := Aside0.mk ((by rw [hg]; exact (below_size (q1_ HB.out GE103.out)) : w.heap.size ≤ gb110)); have n5_ := Aside0.mk ((by rw [hg]; exact Nat.ne_of_lt (blk_lt (g := gb103) (o := .cells #[.int .i64 0, .int .i64 0] 23 (0, 0)) (qb_ BK103.out)) : gb103 ≠ gb110)); have n6_ := Aside0.mk ((by rw [hg]; exact Nat.ne_of_gt (blk_lt (g := gb103) (o := .cells #[.int .i64 0, .int .i64 0] 23 (0, 0)) (qb_ BK103.out)) : gb110 ≠ gb103)); clear BK103; clear HB; have BK103 := n0_; have HB := n1_; have BK110 := n2_; have GW110 := n3_; have GE110 := n4_; have NB103_110 := n5_; have NB110_103 := n6_; clear n0_ n1_ n2_ n3_ n4_ n5_ n6_; clear hb hbox hg) | ((with_reducible refine gate_dst (N := 11) rfl ?_); refine box_event ?hg (N := 11) ?hd (cs := #[.int .i64 0, .int .i64 0]) (t := 23) ?hr ?_; (case hd => rfl); (case hg => rfl); (case hr => first | (go_simp; done) | (go_simp; rfl)); intro gb111 hg w67 hbox hb; have n0_ := Aside0.mk (blk_below (g := gb103) (o := .cells #[.int .i64 0, .int .i64 0] 23 (0, 0)) (qb_ BK103.out) hb); have n1_ := Aside0.mk (blk_below (g := gb110) (o := .cells #[.int .i64 0, .int .i64 0] 23 (0, 0)) (qb_ BK110.out) hb); have n2_ := Aside0.mk (below_step (q2_ HB.out GE103.out GE110.out) hb); have n3_ := Aside0.mk (hbox); have n4_ := Aside0.mk ((by rw [hg]; exact (below_size (q2_ HB.out GE103.out GE110.out)) : w.heap.size ≤ gb111)); have n5_ := Aside0.mk ((by rw [hg]; exact (below_size (q2_ HB.out GE103.out GE110.out)) : w.heap.size ≤ gb111)); have n6_ := Aside0.mk ((by rw [hg]; exact Nat.ne_of_lt (blk_lt (g := gb103) (o := .cells #[.int .i64 0, .int .i64 0] 23 (0, 0)) (qb_ BK103.out)) : gb103 ≠ gb111)); have n7_ := Aside0.mk ((by rw [hg]; exact Nat.ne_of_gt (blk_lt (g := gb103) (o := .cells #[.int .i64 0, .int .i64 0] 23 (0, 0)) (qb_ BK103.out)) : gb111 ≠ gb103)); have n8_ := Aside0.mk ((by rw [hg]; exact Nat.ne_of_lt (blk_lt (g := gb110) (o := .cells #[.int .i64 0, .int .i64 0] 23 (0, 0)) (qb_ BK110.out)) : gb110 ≠ gb111)); have n9_ := Aside0.mk ((by rw [hg]; exact Nat.ne_of_gt (blk_lt (g := gb110) (o := .cells #[.int .i64 0, .int .i64 0] 23 (0, 0)) (qb_ BK110.out)) : gb111 ≠ gb110)); clear BK103; clear BK110; clear HB; have BK103 := n0_; have BK110 := n1_; have HB := n2_; have BK111 := n3_; have GW111 := n4_; have GE111 := n5_; have NB103_111 := n6_; have NB111_103 := n7_; have NB110_111 := n8_; have NB111_110 := n9_; clear n0_ n1_ n2_ n3_ n4_ n5_ n6_ n7_ n8_ n9_; clear hb hbox hg; have hnb68 := NB110_103.out; have hnc68 := NB103_110.out; have hnb69 := NB110_111.out; have hnc69 := NB111_110.out; have hcz70_0 : w67.cell? ⟨gb110, 0, none⟩ = some (.int .i64 0) := (blk_cell BK110.out 0).trans rfl; have hcz70_1 : w67.cell? ⟨gb110, 1, none⟩ = some (.int .i64 0) := (blk_cell BK110.out 1).trans rfl; have hfz70_0 := blk_frozen BK110.out 0; have hfz70_1 := blk_frozen BK110.out 1; have hnb71 := NB111_103.out; have hnc71 := NB103_111.out; have hcz72_0 : w67.cell? ⟨gb111, 0, none⟩ = some (.int .i64 0) := (blk_cell BK111.out 0).trans rfl; have hcz72_1 : w67.cell? ⟨gb111, 1, none⟩ = some (.int .i64 0) := (blk_cell BK111.out 1).trans rfl; have hfz72_0 := blk_frozen BK111.out 0; have hfz72_1 := blk_frozen BK111.out 1) | ((with_reducible refine gate_dst (N := 14) rfl ?_); refine box_event ?hg (N := 14) ?hd (cs := #[.int .i64 0, .int .i64 0]) (t := 23) ?hr ?_; (case hd => rfl); (case hg => rfl); (case hr => first | (go_simp; done) | (go_simp; rfl)); intro gb112 hg w73 hbox hb; have n0_ := Aside0.mk (blk_below (g := gb103) (o := .cells #[.int .i64 0, .int .i64 0] 23 (0, 0)) (by (with_reducible repeat (first | refine blk_drewN ?_ _ | refine blk_drew ?_ | refine blk_alloc ?_ _)); refine blk_far ?_ NB103_111.out _; (with_reducible repeat (first | refine blk_drewN ?_ _ | refine blk_drew ?_ | refine blk_alloc ?_ _)); refine blk_far ?_ NB103_111.out _; (with_reducible repeat (first | refine blk_drewN ?_ _ | refine blk_drew ?_ | refine blk_alloc ?_ _)); refine blk_far ?_ NB103_110.out _; (with_reducible repeat (first | refine blk_drewN ?_ _ | refine blk_drew ?_ | refine blk_alloc ?_ _)); refine blk_far ?_ NB103_110.out _; (with_reducible repeat (first | refine blk_drewN ?_ _ | refine blk_drew ?_ | refine blk_alloc ?_ _)); exact BK103.out) hb); have n1_ := Aside0.mk (blk_below (g := gb110) (o := .cells #[.int .i64 t106, .int .i64 t107] 23 (0, 0)) (by (with_reducible repeat (first | refine blk_drewN ?_ _ | refine blk_drew ?_ | refine blk_alloc ?_ _)); refine blk_far ?_ NB110_111.out _; (with_reducible repeat (first | refine blk_drewN ?_ _ | refine blk_drew ?_ | refine blk_alloc ?_ _)); refine blk_far ?_ NB110_111.out _; (with_reducible repeat (first | refine blk_drewN ?_ _ | refine blk_drew ?_ | refine blk_alloc ?_ _)); refine blk_put (cs := #[.int .i64 t106, .int .i64 0]) ?_ 1 _ rfl; (with_reducible repeat (first | refine blk_drewN ?_ _ | refine blk_drew ?_ | refine blk_alloc ?_ _)); refine blk_put (cs := #[.int .i64 0, .int .i64 0]) ?_ 0 _ rfl; (with_reducible repeat (first | refine blk_drewN ?_ _ | refine blk_drew ?_ | refine blk_alloc ?_ _)); exact BK110.out) hb); have n2_ := Aside0.mk (blk_below (g := gb111) (o := .cells #[.int .i64 t108, .int .i64 t109] 23 (0, 0)) (by (with_reducible repeat (first | refine blk_drewN ?_ _ | refine blk_drew ?_ | refine blk_alloc ?_ _)); refine blk_put (cs := #[.int .i64 t108, .int .i64 0]) ?_ 1 _ rfl; (with_reducible repeat (first | refine blk_drewN ?_ _ | refine blk_drew ?_ | refine blk_alloc ?_ _)); refine blk_put (cs := #[.int .i64 0, .int .i64 0]) ?_ 0 _ rfl; (with_reducible repeat (first | refine blk_drewN ?_ _ | refine blk_drew ?_ | refine blk_alloc ?_ _)); refine blk_far ?_ NB111_110.out _; (with_reducible repeat (first | refine blk_drewN ?_ _ | refine blk_drew ?_ | refine blk_alloc ?_ _)); refine blk_far ?_ NB111_110.out _; (with_reducible repeat (first | refine blk_drewN ?_ _ | refine blk_drew ?_ | refine blk_alloc ?_ _)); exact BK111.out) hb); have n3_ := Aside0.mk (below_step (q3_ HB.out GE103.out GE110.out GE111.out) hb); have n4_ := Aside0.mk (hbox); have n5_ := Aside0.mk ((by rw [hg]; exact (below_size (q3_ HB.out GE103.out GE110.out GE111.out)) : w.heap.size ≤ gb112)); have n6_ := Aside0.mk ((by rw [hg]; exact (below_size (q3_ HB.out GE103.out GE110.out GE111.out)) : w.heap.size ≤ gb112)); have n7_ := Aside0.mk ((by rw [hg]; exact Nat.ne_of_lt (blk_lt (g := gb103) (o := .cells #[.int .i64 0, .int .i64 0] 23 (0, 0)) (by (with_reducible repeat (first | refine blk_drewN ?_ _ | refine blk_drew ?_ | refine blk_alloc ?_ _)); refine blk_far ?_ NB103_111.out _; (with_reducible repeat (first | refine blk_drewN ?_ _ | refine blk_drew ?_ | refine blk_alloc ?_ _)); refine blk_far ?_ NB103_111.out _; (with_reducible repeat (first | refine blk_drewN ?_ _ | refine blk_drew ?_ | refine blk_alloc ?_ _)); refine blk_far ?_ NB103_110.out _; (with_reducible repeat (first | refine blk_drewN ?_ _ | refine blk_drew ?_ | refine blk_alloc ?_ _)); refine blk_far ?_ NB103_110.out _; (with_reducible repeat (first | refine blk_drewN ?_ _ | refine blk_drew ?_ | refine blk_alloc ?_ _)); exact BK103.out)) : gb103 ≠ gb112)); have n8_ := Aside0.mk ((by rw [hg]; exact Nat.ne_of_gt (blk_lt (g := gb103) (o := .cells #[.int .i64 0, .int .i64 0] 23 (0, 0)) (by (with_reducible repeat (first | refine blk_drewN ?_ _ | refine blk_drew ?_ | refine blk_alloc ?_ _)); refine blk_far ?_ NB103_111.out _; (with_reducible repeat (first | refine blk_drewN ?_ _ | refine blk_drew ?_ | refine blk_alloc ?_ _)); refine blk_far ?_ NB103_111.out _; (with_reducible repeat (first | refine blk_drewN ?_ _ | refine blk_drew ?_ | refine blk_alloc ?_ _)); refine blk_far ?_ NB103_110.out _; (with_reducible repeat (first | refine blk_drewN ?_ _ | refine blk_drew ?_ | refine blk_alloc ?_ _)); refine blk_far ?_ NB103_110.out _; (with_reducible repeat (first | refine blk_drewN ?_ _ | refine blk_drew ?_ | refine blk_alloc ?_ _)); exact BK103.out)) : gb112 ≠ gb103)); have n9_ := Aside0.mk ((by rw [hg]; exact Nat.ne_of_lt (blk_lt (g := gb110) (o := .cells #[.int .i64 t106, .int .i64 t107] 23 (0, 0)) (by (with_reducible repeat (first | refine blk_drewN ?_ _ | refine blk_drew ?_ | refine blk_alloc ?_ _)); refine blk_far ?_ NB110_111.out _; (with_reducible repeat (first | refine blk_drewN ?_ _ | refine blk_drew ?_ | refine blk_alloc ?_ _)); refine blk_far ?_ NB110_111.out _; (with_reducible repeat (first | refine blk_drewN ?_ _ | refine blk_drew ?_ | refine blk_alloc ?_ _)); refine blk_put (cs := #[.int .i64 t106, .int .i64 0]) ?_ 1 _ rfl; (with_reducible repeat (first | refine blk_drewN ?_ _ | refine blk_drew ?_ | refine blk_alloc ?_ _)); refine blk_put (cs := #[.int .i64 0, .int .i64 0]) ?_ 0 _ rfl; (with_reducible repeat (first | refine blk_drewN ?_ _ | refine blk_drew ?_ | refine blk_alloc ?_ _)); exact BK110.out)) : gb110 ≠ gb112)); have n10_ := Aside0.mk ((by rw [hg]; exact Nat.ne_of_gt (blk_lt (g := gb110) (o := .cells #[.int .i64 t106, .int .i64 t107] 23 (0, 0)) (by (with_reducible repeat (first | refine blk_drewN ?_ _ | refine blk_drew ?_ | refine blk_alloc ?_ _)); refine blk_far ?_ NB110_111.out _; (with_reducible repeat (first | refine blk_drewN ?_ _ | refine blk_drew ?_ | refine blk_alloc ?_ _)); refine blk_far ?_ NB110_111.out _; (with_reducible repeat (first | refine blk_drewN ?_ _ | refine blk_drew ?_ | refine blk_alloc ?_ _)); refine blk_put (cs := #[.int .i64 t106, .int .i64 0]) ?_ 1 _ rfl; (with_reducible repeat (first | refine blk_drewN ?_ _ | refine blk_drew ?_ | refine blk_alloc ?_ _)); refine blk_put (cs := #[.int .i64 0, .int .i64 0]) ?_ 0 _ rfl; (with_reducible repeat (first | refine blk_drewN ?_ _ | refine blk_drew ?_ | refine blk_alloc ?_ _)); exact BK110.out)) : gb112 ≠ gb110)); have n11_ := Aside0.mk ((by rw [hg]; exact Nat.ne_of_lt (blk_lt (g := gb111) (o := .cells #[.int .i64 t108, .int .i64 t109] 23 (0, 0)) (by (with_reducible repeat (first | refine blk_drewN ?_ _ | refine blk_drew ?_ | refine blk_alloc ?_ _)); refine blk_put (cs := #[.int .i64 t108, .int .i64 0]) ?_ 1 _ rfl; (with_reducible repeat (first | refine blk_drewN ?_ _ | refine blk_drew ?_ | refine blk_alloc ?_ _)); refine blk_put (cs := #[.int .i64 0, .int .i64 0]) ?_ 0 _ rfl; (with_reducible repeat (first | refine blk_drewN ?_ _ | refine blk_drew ?_ | refine blk_alloc ?_ _)); refine blk_far ?_ NB111_110.out _; (with_reducible repeat (first | refine blk_drewN ?_ _ | refine blk_drew ?_ | refine blk_alloc ?_ _)); refine blk_far ?_ NB111_110.out _; (with_reducible repeat (first | refine blk_drewN ?_ _ | refine blk_drew ?_ | refine blk_alloc ?_ _)); exact BK111.out)) : gb111 ≠ gb112)); have n12_ := Aside0.mk ((by rw [hg]; exact Nat.ne_of_gt (blk_lt (g := gb111) (o := .cells #[.int .i64 t108, .int .i64 t109] 23 (0, 0)) (by (with_reducible repeat (first | refine blk_drewN ?_ _ | refine blk_drew ?_ | refine blk_alloc ?_ _)); refine blk_put (cs := #[.int .i64 t108, .int .i64 0]) ?_ 1 _ rfl; (with_reducible repeat (first | refine blk_drewN ?_ _ | refine blk_drew ?_ | refine blk_alloc ?_ _)); refine blk_put (cs := #[.int .i64 0, .int .i64 0]) ?_ 0 _ rfl; (with_reducible repeat (first | refine blk_drewN ?_ _ | refine blk_drew ?_ | refine blk_alloc ?_ _)); refine blk_far ?_ NB111_110.out _; (with_reducible repeat (first | refine blk_drewN ?_ _ | refine blk_drew ?_ | refine blk_alloc ?_ _)); refine blk_far ?_ NB111_110.out _; (with_reducible repeat (first | refine blk_drewN ?_ _ | refine blk_drew ?_ | refine blk_alloc ?_ _)); exact BK111.out)) : gb112 ≠ gb111)); clear BK103; clear BK110; clear BK111; clear HB; have BK103 := n0_; have BK110 := n1_; have BK111 := n2_; have HB := n3_; have BK112 := n4_; have GW112 := n5_; have GE112 := n6_; have NB103_112 := n7_; have NB112_103 := n8_; have NB110_112 := n9_; have NB112_110 := n10_; have NB111_112 := n11_; have NB112_111 := n12_; clear n0_ n1_ n2_ n3_ n4_ n5_ n6_ n7_ n8_ n9_ n10_ n11_ n12_; clear hb hbox hg; have hnb74 := NB112_103.out; have hnc74 := NB103_112.out; have hnb75 := NB112_110.out; have hnc75 := NB110_112.out; have hnb76 := NB112_111.out; have hnc76 := NB111_112.out; have hcz77_0 : w73.cell? ⟨gb112, 0, none⟩ = some (.int .i64 0) := (blk_cell BK112.out 0).trans rfl; have hcz77_1 : w73.cell? ⟨gb112, 1, none⟩ = some (.int .i64 0) := (blk_cell BK112.out 1).trans rfl; have hfz77_0 := blk_frozen BK112.out 0; have hfz77_1 := blk_frozen BK112.out 1; have hcz78_0 : w73.cell? ⟨gb103, 0, none⟩ = some (.int .i64 0) := (blk_cell BK103.out 0).trans rfl; have hcz78_1 : w73.cell? ⟨gb103, 1, none⟩ = some (.int .i64 0) := (blk_cell BK103.out 1).trans rfl; have hfz78_0 := blk_frozen BK103.out 0; have hfz78_1 := blk_frozen BK103.out 1))
            refine bodyPost_ret (results_ct rfl _ _ gb103 23 #[.int .i64 (wrap64 (t106 + (wrap64 (t104 * t107)))), .int .i64 t107] (0, 0) _ rfl (by (with_reducible repeat (first | refine blk_drewN ?_ _ | refine blk_drew ?_ | refine blk_alloc ?_ _)); refine blk_put (cs := #[.int .i64 (wrap64 (t106 + (wrap64 (t104 * t107)))), .int .i64 0]) ?_ 1 _ rfl; (with_reducible repeat (first | refine blk_drewN ?_ _ | refine blk_drew ?_ | refine blk_alloc ?_ _)); refine blk_put (cs := #[.int .i64 0, .int .i64 0]) ?_ 0 _ rfl; (with_reducible repeat (first | refine blk_drewN ?_ _ | refine blk_drew ?_ | refine blk_alloc ?_ _)); refine blk_far ?_ NB103_112.out _; (with_reducible repeat (first | refine blk_drewN ?_ _ | refine blk_drew ?_ | refine blk_alloc ?_ _)); refine blk_far ?_ NB103_112.out _; (with_reducible repeat (first | refine blk_drewN ?_ _ | refine blk_drew ?_ | refine blk_alloc ?_ _)); refine blk_far ?_ NB103_112.out _; (with_reducible repeat (first | refine blk_drewN ?_ _ | refine blk_drew ?_ | refine blk_alloc ?_ _)); exact BK103.out) Tryd.underlying23 rfl (by kernel_rfl)) rfl ?_
            exact ⟨by first | rfl | (simp [errW_none, errW_some] <;> rfl) | (simp [*, errW_none, errW_some] <;> rfl), (q4_ HB.out GE103.out GE110.out GE111.out GE112.out)⟩
end Go.Proofs.YtdjnneflpkllmaaDoor.Q



namespace Go.Proofs.Num
open Go.RowKit Go.Proofs.YtdjnneflpkllmaaDoorW.PrintLast Go.Proofs.YtdjnneflpkllmaaDoorW.PrintWords Go.Proofs.YtdjnneflpkllmaaDoor.Q
set_option linter.unusedVariables false
set_option linter.unusedSimpArgs false
theorem best_alive (w : World) : Calls Tryd.prog 19 #[.int .i64 355, .int .i64 113, .int .i64 10] w fun e w' => e = .returned (.tuple #[.agg #[.int .i64 22, .int .i64 7], .int .i64 0]) ∧ Below w.heap.size w w' :=
  num_Best.calls 30 355 113 10 22 7 0 w (by kernel_rfl)
theorem valid_alive (w : World) : Calls Tryd.prog 26 #[.agg #[.int .i64 22, .int .i64 7]] w fun e w' => e = .returned (.bool true) ∧ Below w.heap.size w w' :=
  num_Valid.calls 30 22 7 true w (by kernel_rfl)
set_option maxRecDepth 100000 in
set_option maxHeartbeats 3200000 in
theorem alive_any (w : World) : Calls Tryd.prog 21 #[] w fun e w' => e = .returned (.bool true) ∧ Below w.heap.size w w' := by
  have hb0 : Below w.heap.size w (w.alloc (.cells #[.int .i64 3, .int .i64 3, .int .i64 1] 3)) := (Below.refl _ _).alloc (Nat.le_refl _) _
  have hh0 : (w.alloc (.cells #[.int .i64 3, .int .i64 3, .int .i64 1] 3)).heap[w.heap.size]? = some (.cells #[.int .i64 3, .int .i64 3, .int .i64 1] 3 (0, 0)) := by show (w.heap.push _)[w.heap.size]? = _; simp
  have AP := apportion_alive w.heap.size (w.alloc (.cells #[.int .i64 3, .int .i64 3, .int .i64 1] 3)) (by simp) ((blk_cell hh0 0).trans rfl) ((blk_cell hh0 1).trans rfl) ((blk_cell hh0 2).trans rfl)
  have HA := Lib.hid AP
  have HB0 := Lib.hid hb0
  clear AP hb0 hh0
  go_enter Tryd.func21, Tryd.ntmps21
  go_upto_region 3 with (first
    | (go_at_call 47; refine HA.out.mono ?_; rintro e w1 ⟨p, rfl, hp, y0, y1, y2, hb1⟩; have HY0 := Lib.hid y0; have HY1 := Lib.hid y1; have HY2 := Lib.hid y2; clear y0 y1 y2)
    | (go_at_call 19; refine (best_alive _).mono ?_; rintro e w2 ⟨rfl, hb2⟩))
  have hz2 : p < w2.heap.size := Nat.lt_of_lt_of_le hp hb2.size
  have y0 := (hb2.cell (p := ⟨p, 0, none⟩) hp).trans HY0.out
  have y1 := (hb2.cell (p := ⟨p, 1, none⟩) hp).trans HY1.out
  have y2 := (hb2.cell (p := ⟨p, 2, none⟩) hp).trans HY2.out
  have hbw : Below w.heap.size w w2 := (HB0.out.trans (hb1.mono (by simp))).trans (hb2.mono (HB0.out.trans (hb1.mono (by simp))).size)
  have hF : (w2.alloc (.cells #[.int .i64 22, .int .i64 7] 23)).heap[w2.heap.size]? = some (.cells #[.int .i64 22, .int .i64 7] 23 (0, 0)) := by show (w2.heap.push _)[w2.heap.size]? = _; simp
  have hbF : Below w2.heap.size w2 (w2.alloc (.cells #[.int .i64 22, .int .i64 7] 23)) := (Below.refl _ _).alloc (Nat.le_refl _) _
  have hsF : (w2.alloc (.cells #[.int .i64 22, .int .i64 7] 23)).heap.size = w2.heap.size + 1 := by simp
  clear hb1 hb2 hp HY0 HY1 HY2 HB0 HA
  generalize w2.alloc (.cells #[.int .i64 22, .int .i64 7] 23) = W at hF hbF hsF ⊢
  have SAME : ∀ w3, Below W.heap.size W w3 → Calls Tryd.prog 41 #[.slice (some ⟨p, 0, none⟩) 3 3, .slice (some ⟨w3.heap.size, 0, none⟩) 3 3] (w3.alloc (.cells #[.int .i64 4, .int .i64 4, .int .i64 2] 3)) fun e w' => e = .returned (.bool true) ∧ ∃ n, w' = (w3.alloc (.cells #[.int .i64 4, .int .i64 4, .int .i64 2] 3)).drewN n := by
    intro w3 h3
    have hh : (w3.alloc (.cells #[.int .i64 4, .int .i64 4, .int .i64 2] 3)).heap[w3.heap.size]? = some (.cells #[.int .i64 4, .int .i64 4, .int .i64 2] 3 (0, 0)) := by show (w3.heap.push _)[w3.heap.size]? = _; simp
    have hb : Below w2.heap.size w2 (w3.alloc (.cells #[.int .i64 4, .int .i64 4, .int .i64 2] 3)) := hbF.trans ((h3.alloc h3.size _).mono (by omega))
    exact same_alive _ _ _ ((hb.cell (p := ⟨p, 0, none⟩) hz2).trans y0) ((hb.cell (p := ⟨p, 1, none⟩) hz2).trans y1) ((hb.cell (p := ⟨p, 2, none⟩) hz2).trans y2) ((blk_cell hh 0).trans rfl) ((blk_cell hh 1).trans rfl) ((blk_cell hh 2).trans rfl)
  have FR : ∀ w3, Below W.heap.size W w3 → w3.cell? ⟨w2.heap.size, 0, none⟩ = some (.int .i64 22) ∧ w3.cell? ⟨w2.heap.size, 1, none⟩ = some (.int .i64 7) ∧ w2.heap.size < w3.heap.size := by
    intro w3 h3
    have hh := (h3.block w2.heap.size (by omega)).trans hF
    exact ⟨(blk_cell hh 0).trans rfl, (blk_cell hh 1).trans rfl, by have := h3.size; omega⟩
  have HS := Lib.hid SAME
  have HFR := Lib.hid FR
  have HW := Lib.hid (hbw.trans (hbF.mono hbw.size))
  have HWs : w.heap.size ≤ W.heap.size := HW.out.size
  clear SAME FR hF hbF hsF y0 y1 y2 hz2 hbw
  go_wp2_with (first
    | (go_at_call 72; refine (decimal_alive _).mono ?_; rintro e w3 ⟨rfl, hb3⟩; obtain ⟨f0, f1, f2⟩ := HFR.out w3 hb3; have hb3' := Lib.hid hb3; clear hb3)
    | (go_at_call 41; refine (HS.out w3 hb3'.out).mono ?_; rintro e w4 ⟨rfl, n, rfl⟩)
    | (go_at_call 26; refine (valid_alive _).mono ?_; rintro e w5 ⟨rfl, hb5⟩))
  go_ret
  have h1 := hb3'.out.size
  have hX : w.heap.size ≤ ((w3.alloc (.cells #[.int .i64 4, .int .i64 4, .int .i64 2] 3)).drewN n).heap.size := by
    show w.heap.size ≤ (w3.alloc _).heap.size
    simp
    omega
  exact ⟨rfl, HW.out.trans ((below_draws ((hb3'.out.alloc hb3'.out.size _).mono HWs) n).trans (hb5.mono hX))⟩
end Go.Proofs.Num

namespace Go.Proofs.YtdjnneflpkllmaaDoor.Q
open Go.RowKit Go.Proofs.YtdjnneflpkllmaaDoorW.PrintWords Go.Proofs.YtdjnneflpkllmaaDoorW.PrintLast Go.Proofs.YtdjnneflpkllmaaDoorW.PrintMore
attribute [local go_sem] max2_int min2_int max_two min_two max_three min_three max_four min_four   -- for this text's walks alone
set_option linter.unusedVariables false
set_option linter.unusedSimpArgs false
def merinolaw01_alive.f : Option Bool := some true
theorem merinolaw01_alive.calls (r : Bool) (w : World) (h : merinolaw01_alive.f = some r) : Calls Tryd.prog 21 #[] w fun e w' => e = .returned (.bool r) ∧ Below w.heap.size w w' := by
  obtain rfl : true = r := Option.some.inj h
  exact Go.Proofs.Num.alive_any w
end Go.Proofs.YtdjnneflpkllmaaDoor.Q

namespace Go.Proofs.YtdjnneflpkllmaaDoor.Q
open Go.RowKit Go.Proofs.YtdjnneflpkllmaaDoorW.PrintWords Go.Proofs.YtdjnneflpkllmaaDoorW.PrintLast Go.Proofs.YtdjnneflpkllmaaDoorW.PrintMore
attribute [local go_sem] max2_int min2_int max_two min_two max_three min_three max_four min_four   -- for this text's walks alone
set_option linter.unusedVariables false
set_option linter.unusedSimpArgs false
def merinolaw01_few.f (l0 : List Int) : Option (Bool) := some (decide ((l0.length : Int) ≤ 300))
set_option maxHeartbeats 8000000 in
set_option maxRecDepth 100000 in
theorem merinolaw01_few.calls (A0 : Option Addr) (c0 : Nat) (l0 : List Int) (r : Bool) (w : World) (hr0 : Kd.C (Kd.int .i64) w A0 l0.length l0) (hc0 : l0.length ≤ c0) (h : merinolaw01_few.f l0 = some r) :
    Calls Tryd.prog 35 #[.slice A0 l0.length c0] w fun e w' => e = .returned (.bool r) ∧ Drawn0 w w' := by
  have HR0 := Aside0.mk hr0
  have HC0 := Aside0.mk hc0
  clear hr0 hc0
  have H : (some (decide ((l0.length : Int) ≤ 300))) = some r := h
  clear h
  obtain rfl := Option.some.inj H
  go_enter Tryd.func35, Tryd.ntmps35
  go_wp2
  go_ret
  exact ⟨by first | rfl | (simp; done) | (simp [*]; done), by repeat (first | exact Drawn0.refl _ | apply Drawn0.step)⟩
end Go.Proofs.YtdjnneflpkllmaaDoor.Q

namespace Go.Proofs.YtdjnneflpkllmaaDoor.Q
open Go.RowKit Go.Proofs.YtdjnneflpkllmaaDoorW.PrintWords Go.Proofs.YtdjnneflpkllmaaDoorW.PrintLast Go.Proofs.YtdjnneflpkllmaaDoorW.PrintMore
attribute [local go_sem] max2_int min2_int max_two min_two max_three min_three max_four min_four   -- for this text's walks alone
set_option linter.unusedVariables false
set_option linter.unusedSimpArgs false
theorem cut_cap {P : Program} (t e : TypeId) (kh : IntKind) {i : TypeInfo} (ht : P.underlying t = some (.slice e)) (hi : P.info? e = some i) (A : Option Addr) (n c : Nat) (j : Int) (h0 : 0 ≤ j) (hm : j ≤ c) :
    ∀ W : World, (Instr.slice t (.slice A n c) none (some (.int kh j)) none).run P W = .ok (.slice A j.toNat c) W := by
  intro W
  have hel : P.elem t = e := by simp [Program.elem, ht]
  have hu : P.underlying t = some (.slice (P.elem t)) := by rw [hel]; exact ht
  have ha : (A.map fun x => x.add 0) = A := by cases A <;> simp [Addr.add]
  rw [run_slice_h W t A n c hu kh j h0 (by omega), hel]
  simp [sizeOf, typeInfo, hi, sliced, Result.andThen, ha]
set_option maxHeartbeats 8000000 in
set_option maxRecDepth 100000 in
theorem merinolaw01_kept.full (k : Nat) (A0 : Option Addr) (c0 : Nat) (l0 F : List Int) (A1 : Option Addr) (c1 : Nat) (l1 : List Int) (w : World) (hr0 : Kd.C (Kd.int .i64) w A0 l0.length l0) (hF : Kd.C (Kd.int .i64) w A0 F.length F) (hcF : F.length ≤ c0) (hlF : F.length = l1.length + 2) (hl0 : l0.length = l1.length) (hr1 : Kd.C (Kd.int .i64) w A1 l1.length l1) (hc1 : l1.length ≤ c1) (hsm : l1.length ≤ 1000000)
    (hs : merinolaw01_same.f k l0 l1 = some true) (m0 : rd F (l1.length : Int) = 77) (m1 : rd F ((l1.length : Int) + 1) = 77) :
    Calls Tryd.prog 42 #[.slice A0 l0.length c0, .slice A1 l1.length c1] w fun e w' => e = .returned (.bool true) ∧ Drawn0 w w' := by
  have HR0 := Aside0.mk hr0
  have hc0 : l0.length ≤ c0 := by omega
  have HC0 := Aside0.mk hc0
  have HR1 := Aside0.mk hr1
  have HC1 := Aside0.mk hc1
  have HR671 := Aside0.mk hF
  have HC671 := Aside0.mk hcF
  have A6 := Aside0.mk hs
  obtain ⟨ji3, hji3⟩ : ∃ j_ : Int, (wrap64 ((l1.length : Int) + 2)) = j_ := ⟨_, rfl⟩
  have hji3w : (IntKind.i64.wrap ((l1.length : Int) + 2)) = ji3 := (i64_w _).trans hji3
  have e3 : ji3 = (l1.length : Int) + 2 := by rw [← hji3]; unfold wrap64; omega
  obtain ⟨ji11, hji11⟩ : ∃ j_ : Int, (wrap64 ((l1.length : Int) + 1)) = j_ := ⟨_, rfl⟩
  have hji11w : (IntKind.i64.wrap ((l1.length : Int) + 1)) = ji11 := (i64_w _).trans hji11
  have e11 : ji11 = (l1.length : Int) + 1 := by rw [← hji11]; unfold wrap64; omega
  obtain ⟨i014, hi014, _, hsz14, _⟩ := info_parts info3
  have hcut14 := cut_cap (P := Tryd.prog) 29 3 .i64 Tryd.underlying29 hi014 A0 l0.length c0 ji3 (by omega) (by omega)
  rw [show ji3.toNat = F.length by omega] at hcut14
  have c4b1 : decide (0 ≤ (ji3)) = true := decide_eq_true (by omega)
  have c8b0 : decide (0 ≤ (l1.length : Int)) = true := decide_eq_true (by omega)
  have c9b0 : decide ((l1.length : Int) < (F.length : Int)) = true := decide_eq_true (by omega)
  have c9b1 : decide (l1.length < F.length) = true := decide_eq_true (by omega)
  have c10b0 : (rd F (l1.length : Int) == 77) = true := beq_iff_eq.mpr m0
  have c12b0 : decide (0 ≤ (ji11)) = true := decide_eq_true (by omega)
  have c13b0 : decide ((ji11) < (F.length : Int)) = true := decide_eq_true (by omega)
  have c14b0 : (rd F (ji11) == 77) = true := by rw [e11]; exact beq_iff_eq.mpr m1
  clear hr0 hF hcF hlF hl0 hr1 hc1 hsm hs m0 m1 hc0 e3 e11 hji3 hji11 hi014 hsz14
  go_enter Tryd.func42, Tryd.ntmps42
  go_wp2_with (first | ((with_reducible refine gate_callee (f := 41) rfl ?_); refine goesL_ (some 13) rfl rfl Tryd.func41 (by kernel_rfl) rfl #[.slice A0 l0.length c0, .slice A1 l1.length c1] rfl qe_ ?_; (with_reducible refine (merinolaw01_same.calls k _ _ l0 _ _ l1 true _ ?side1 ?side2 ?side3 ?side4 A6.out).mono ?_); (case side1 => repeat (first | exact HR0.out | (with_reducible refine Kd.C_alloc ?_ _) | (with_reducible refine Kd.C_drewN ?_ _) | (with_reducible refine Kd.C_drew ?_))); (case side2 => exact HC0.out); (case side3 => repeat (first | exact HR1.out | (with_reducible refine Kd.C_alloc ?_ _) | (with_reducible refine Kd.C_drewN ?_ _) | (with_reducible refine Kd.C_drew ?_))); (case side4 => exact HC1.out); rintro e w' ⟨rfl, ⟨nd, rfl⟩⟩; refine ⟨_, rfl, ?_⟩; have p673 : 0 ≤ ((l1.length : Int) : Int) := of_decide_eq_true (by first | (with_reducible assumption) | assumption); have q673 : (l1.length : Int) < (F.length : Int) := of_decide_eq_true (by first | (with_reducible assumption) | assumption); obtain ⟨ad673, e673, hx673_0⟩ := Kd.at_int HR671.out (l1.length : Int) p673 q673; cases e673; (try simp only [Go.IntWalk.toNatUp] at hx673_0); replace p673 := eq_true p673; replace q673 := eq_true q673; have p674 : 0 ≤ ((ji11) : Int) := of_decide_eq_true (by first | (with_reducible assumption) | assumption); have q674 : (ji11) < (F.length : Int) := of_decide_eq_true (by first | (with_reducible assumption) | assumption); obtain ⟨ad674, e674, hx674_0⟩ := Kd.at_int HR671.out (ji11) p674 q674; obtain rfl : ad673 = ad674 := (by injection e674); replace p674 := eq_true p674; replace q674 := eq_true q674))
  go_ret
  exact ⟨by first | rfl | (simp; done) | (simp [*]; done), by repeat (first | exact Drawn0.refl _ | apply Drawn0.step)⟩
end Go.Proofs.YtdjnneflpkllmaaDoor.Q

namespace Go.Proofs.YtdjnneflpkllmaaDoor.Q
open Go.RowKit Go.Proofs.YtdjnneflpkllmaaDoorW.PrintWords Go.Proofs.YtdjnneflpkllmaaDoorW.PrintLast Go.Proofs.YtdjnneflpkllmaaDoorW.PrintMore
attribute [local go_sem] max2_int min2_int max_two min_two max_three min_three max_four min_four   -- for this text's walks alone
set_option linter.unusedVariables false
set_option linter.unusedSimpArgs false
def num_Path.l0 : Nat → List Int → Int → Int → Option (List Int × Int)
  | 0, _, _, _ => none
  | k + 1, x4, x5, x6 => if x6 = 0 then (some (x4, 0)) else ((num_down.f x5 x6).bind fun bt620 => (if x4.length < 17592186044416 then (num_Path.l0 k (x4 ++ [bt620.1]) x6 bt620.2) else (none)))
def num_Path.f (k : Nat) (a0_0 : Int) (a0_1 : Int) : Option (List Int × Int) := (num_Valid.f k a0_0 a0_1).bind fun t619 => (if t619 = true then (num_Path.l0 k ([] : List Int) a0_0 a0_1) else (some (([] : List Int), 2)))
theorem num_Path.mono_l : ∀ k, (∀ y0 y1 y2, LeO (num_Path.l0 k y0 y1 y2) (num_Path.l0 (k + 1) y0 y1 y2))
  | 0 => fun _ _ _ r h => by simp [num_Path.l0] at h
  | k + 1 => by
    have ih0 := num_Path.mono_l k
    · intro y0 y1 y2
      unfold num_Path.l0
      repeat' first
      | (with_reducible exact ih0 _ _ _)
      | (with_reducible exact num_Valid.mono _ _ _)
      | (with_reducible exact LeO.refl _)
      | (with_reducible exact LeO.none _)
      | (with_reducible refine LeO.ite ?_ ?_)
      | (with_reducible refine LeO.bind ?_ (fun _ => ?_))
      | exact ih0 _ _ _
      | exact num_Valid.mono _ _ _
      | exact LeO.none _
      | refine LeO.ite ?_ ?_
      | refine LeO.bind ?_ (fun _ => ?_)
theorem num_Path.mono : ∀ a0 a1 k, LeO (num_Path.f k a0 a1) (num_Path.f (k + 1) a0 a1) := by
  intro a0 a1 k
  have ih0 := num_Path.mono_l k
  unfold num_Path.f
  repeat' first
      | (with_reducible exact ih0 _ _ _)
      | (with_reducible exact num_Valid.mono _ _ _)
      | (with_reducible exact LeO.refl _)
      | (with_reducible exact LeO.none _)
      | (with_reducible refine LeO.ite ?_ ?_)
      | (with_reducible refine LeO.bind ?_ (fun _ => ?_))
      | exact ih0 _ _ _
      | exact num_Valid.mono _ _ _
      | exact LeO.none _
      | refine LeO.ite ?_ ?_
      | refine LeO.bind ?_ (fun _ => ?_)
def merinoref01_Path.l0 : Nat → List Int → Int → Int → Option (List Int × Int)
  | 0, _, _, _ => none
  | k + 1, x4, x5, x6 => if x6 > 0 then (if x6 = 0 then (none) else (if (Int.tmod x5 x6) < 0 then (if x4.length < 17592186044416 then (merinoref01_Path.l0 k (x4 ++ [wrap64 ((wrap64 (Int.tdiv x5 x6)) - 1)]) x6 (wrap64 ((Int.tmod x5 x6) + x6))) else (none)) else (if x4.length < 17592186044416 then (merinoref01_Path.l0 k (x4 ++ [wrap64 (Int.tdiv x5 x6)]) x6 (Int.tmod x5 x6)) else (none)))) else (some (x4, 0))
def merinoref01_Path.f (k : Nat) (a0_0 : Int) (a0_1 : Int) : Option (List Int × Int) := (merinoref01_Valid.f k a0_0 a0_1).bind fun t626 => (if t626 = true then (merinoref01_Path.l0 k ([] : List Int) a0_0 a0_1) else (some (([] : List Int), 2)))
theorem merinoref01_Path.mono_l : ∀ k, (∀ y0 y1 y2, LeO (merinoref01_Path.l0 k y0 y1 y2) (merinoref01_Path.l0 (k + 1) y0 y1 y2))
  | 0 => fun _ _ _ r h => by simp [merinoref01_Path.l0] at h
  | k + 1 => by
    have ih0 := merinoref01_Path.mono_l k
    · intro y0 y1 y2
      unfold merinoref01_Path.l0
      repeat' first
      | (with_reducible exact ih0 _ _ _)
      | (with_reducible exact merinoref01_Valid.mono _ _ _)
      | (with_reducible exact LeO.refl _)
      | (with_reducible exact LeO.none _)
      | (with_reducible refine LeO.ite ?_ ?_)
      | (with_reducible refine LeO.bind ?_ (fun _ => ?_))
      | exact ih0 _ _ _
      | exact merinoref01_Valid.mono _ _ _
      | exact LeO.none _
      | refine LeO.ite ?_ ?_
      | refine LeO.bind ?_ (fun _ => ?_)
theorem merinoref01_Path.mono : ∀ a0 a1 k, LeO (merinoref01_Path.f k a0 a1) (merinoref01_Path.f (k + 1) a0 a1) := by
  intro a0 a1 k
  have ih0 := merinoref01_Path.mono_l k
  unfold merinoref01_Path.f
  repeat' first
      | (with_reducible exact ih0 _ _ _)
      | (with_reducible exact merinoref01_Valid.mono _ _ _)
      | (with_reducible exact LeO.refl _)
      | (with_reducible exact LeO.none _)
      | (with_reducible refine LeO.ite ?_ ?_)
      | (with_reducible refine LeO.bind ?_ (fun _ => ?_))
      | exact ih0 _ _ _
      | exact merinoref01_Valid.mono _ _ _
      | exact LeO.none _
      | refine LeO.ite ?_ ?_
      | refine LeO.bind ?_ (fun _ => ?_)
mutual
def num_FromPath.l0 : Nat → List Int → Int → List Int → Int → Int → Option (Int × Int × Int)
  | 0, _, _, _, _, _ => none
  | k + 1, x0, x4, x22, x23, x24 => if x24 < x23 then (if 0 ≤ x24 then (if x24 < (x22.length : Int) then (if x24 > 0 then (if (rd x22 x24) < 1 then (some (0, 0, 2)) else (num_FromPath.l0 k x0 x4 x22 x23 (wrap64 (x24 + 1)))) else (num_FromPath.l0 k x0 x4 x22 x23 (wrap64 (x24 + 1)))) else (none)) else (none)) else (if x4 > 0 then (if 0 ≤ x4 then (if x4 < (x0.length : Int) then (num_FromPath.j1 k x0 x4 ((rd x0 x4) == 1)) else (none)) else (none)) else (num_FromPath.j1 k x0 x4 false))
def num_FromPath.j1 : Nat → List Int → Int → Bool → Option (Int × Int × Int)
  | 0, _, _, _ => none
  | k + 1, x0, x4, x45 => if x45 = true then (some (0, 0, 2)) else (num_FromPath.l1 k x0 1 0 x4)
def num_FromPath.l1 : Nat → List Int → Int → Int → Int → Option (Int × Int × Int)
  | 0, _, _, _, _ => none
  | k + 1, x0, x7, x8, x9 => if x9 > 0 then (if 0 ≤ x9 then (if x9 < (x0.length : Int) then (if (rd x0 x9) > 1048576 then (some (0, 0, 4)) else (if (wrap64 ((wrap64 ((rd x0 x9) * x7)) + x8)) > 1048576 then (some (0, 0, 4)) else (num_FromPath.l1 k x0 (wrap64 ((wrap64 ((rd x0 x9) * x7)) + x8)) x7 (wrap64 (x9 - 1))))) else (none)) else (none)) else (if 0 < (x0.length : Int) then (if (rd x0 0) < (-1099511627777) then (num_FromPath.j3 k x7 x8 (rd x0 0) true) else (num_FromPath.j3 k x7 x8 (rd x0 0) (decide ((rd x0 0) > 1099511627776)))) else (none))
def num_FromPath.j3 : Nat → Int → Int → Int → Bool → Option (Int × Int × Int)
  | 0, _, _, _, _ => none
  | k + 1, x7, x8, x10, x78 => if x78 = true then (some (0, 0, 4)) else ((num_Valid.f k (wrap64 ((wrap64 (x10 * x7)) + x8)) x7).bind fun t640 => (if t640 = true then (some (wrap64 ((wrap64 (x10 * x7)) + x8), x7, 0)) else (some (0, 0, 4))))
end
def num_FromPath.f (k : Nat) (l0 : List Int) : Option (Int × Int × Int) := if (l0.length : Int) > 64 then (some (0, 0, 3)) else (if (wrap64 ((l0.length : Int) - 1)) < 0 then (some (0, 0, 2)) else (num_FromPath.l0 k l0 (wrap64 ((l0.length : Int) - 1)) l0 (l0.length : Int) 0))
theorem num_FromPath.mono_l : ∀ k, (∀ y0 y1 y2 y3 y4, LeO (num_FromPath.l0 k y0 y1 y2 y3 y4) (num_FromPath.l0 (k + 1) y0 y1 y2 y3 y4)) ∧ (∀ y0 y1 y2, LeO (num_FromPath.j1 k y0 y1 y2) (num_FromPath.j1 (k + 1) y0 y1 y2)) ∧ (∀ y0 y1 y2 y3, LeO (num_FromPath.l1 k y0 y1 y2 y3) (num_FromPath.l1 (k + 1) y0 y1 y2 y3)) ∧ (∀ y0 y1 y2 y3, LeO (num_FromPath.j3 k y0 y1 y2 y3) (num_FromPath.j3 (k + 1) y0 y1 y2 y3))
  | 0 => ⟨fun _ _ _ _ _ r h => by simp [num_FromPath.l0] at h, fun _ _ _ r h => by simp [num_FromPath.j1] at h, fun _ _ _ _ r h => by simp [num_FromPath.l1] at h, fun _ _ _ _ r h => by simp [num_FromPath.j3] at h⟩
  | k + 1 => by
    obtain ⟨ih0, ih1, ih2, ih3⟩ := num_FromPath.mono_l k
    refine ⟨?_, ?_, ?_, ?_⟩
    · intro y0 y1 y2 y3 y4
      unfold num_FromPath.l0
      repeat' first
      | (with_reducible exact ih0 _ _ _ _ _)
      | (with_reducible exact ih1 _ _ _)
      | (with_reducible exact ih2 _ _ _ _)
      | (with_reducible exact ih3 _ _ _ _)
      | (with_reducible exact num_Valid.mono _ _ _)
      | (with_reducible exact LeO.refl _)
      | (with_reducible exact LeO.none _)
      | (with_reducible refine LeO.ite ?_ ?_)
      | (with_reducible refine LeO.bind ?_ (fun _ => ?_))
      | exact ih0 _ _ _ _ _
      | exact ih1 _ _ _
      | exact ih2 _ _ _ _
      | exact ih3 _ _ _ _
      | exact num_Valid.mono _ _ _
      | exact LeO.none _
      | refine LeO.ite ?_ ?_
      | refine LeO.bind ?_ (fun _ => ?_)
    · intro y0 y1 y2
      unfold num_FromPath.j1
      repeat' first
      | (with_reducible exact ih0 _ _ _ _ _)
      | (with_reducible exact ih1 _ _ _)
      | (with_reducible exact ih2 _ _ _ _)
      | (with_reducible exact ih3 _ _ _ _)
      | (with_reducible exact num_Valid.mono _ _ _)
      | (with_reducible exact LeO.refl _)
      | (with_reducible exact LeO.none _)
      | (with_reducible refine LeO.ite ?_ ?_)
      | (with_reducible refine LeO.bind ?_ (fun _ => ?_))
      | exact ih0 _ _ _ _ _
      | exact ih1 _ _ _
      | exact ih2 _ _ _ _
      | exact ih3 _ _ _ _
      | exact num_Valid.mono _ _ _
      | exact LeO.none _
      | refine LeO.ite ?_ ?_
      | refine LeO.bind ?_ (fun _ => ?_)
    · intro y0 y1 y2 y3
      unfold num_FromPath.l1
      repeat' first
      | (with_reducible exact ih0 _ _ _ _ _)
      | (with_reducible exact ih1 _ _ _)
      | (with_reducible exact ih2 _ _ _ _)
      | (with_reducible exact ih3 _ _ _ _)
      | (with_reducible exact num_Valid.mono _ _ _)
      | (with_reducible exact LeO.refl _)
      | (with_reducible exact LeO.none _)
      | (with_reducible refine LeO.ite ?_ ?_)
      | (with_reducible refine LeO.bind ?_ (fun _ => ?_))
      | exact ih0 _ _ _ _ _
      | exact ih1 _ _ _
      | exact ih2 _ _ _ _
      | exact ih3 _ _ _ _
      | exact num_Valid.mono _ _ _
      | exact LeO.none _
      | refine LeO.ite ?_ ?_
      | refine LeO.bind ?_ (fun _ => ?_)
    · intro y0 y1 y2 y3
      unfold num_FromPath.j3
      repeat' first
      | (with_reducible exact ih0 _ _ _ _ _)
      | (with_reducible exact ih1 _ _ _)
      | (with_reducible exact ih2 _ _ _ _)
      | (with_reducible exact ih3 _ _ _ _)
      | (with_reducible exact num_Valid.mono _ _ _)
      | (with_reducible exact LeO.refl _)
      | (with_reducible exact LeO.none _)
      | (with_reducible refine LeO.ite ?_ ?_)
      | (with_reducible refine LeO.bind ?_ (fun _ => ?_))
      | exact ih0 _ _ _ _ _
      | exact ih1 _ _ _
      | exact ih2 _ _ _ _
      | exact ih3 _ _ _ _
      | exact num_Valid.mono _ _ _
      | exact LeO.none _
      | refine LeO.ite ?_ ?_
      | refine LeO.bind ?_ (fun _ => ?_)
theorem num_FromPath.mono : ∀ a0 k, LeO (num_FromPath.f k a0) (num_FromPath.f (k + 1) a0) := by
  intro a0 k
  obtain ⟨ih0, ih1, ih2, ih3⟩ := num_FromPath.mono_l k
  unfold num_FromPath.f
  repeat' first
      | (with_reducible exact ih0 _ _ _ _ _)
      | (with_reducible exact ih1 _ _ _)
      | (with_reducible exact ih2 _ _ _ _)
      | (with_reducible exact ih3 _ _ _ _)
      | (with_reducible exact num_Valid.mono _ _ _)
      | (with_reducible exact LeO.refl _)
      | (with_reducible exact LeO.none _)
      | (with_reducible refine LeO.ite ?_ ?_)
      | (with_reducible refine LeO.bind ?_ (fun _ => ?_))
      | exact ih0 _ _ _ _ _
      | exact ih1 _ _ _
      | exact ih2 _ _ _ _
      | exact ih3 _ _ _ _
      | exact num_Valid.mono _ _ _
      | exact LeO.none _
      | refine LeO.ite ?_ ?_
      | refine LeO.bind ?_ (fun _ => ?_)
end Go.Proofs.YtdjnneflpkllmaaDoor.Q

namespace Go.Proofs.YtdjnneflpkllmaaDoor.Q
open Go.RowKit Go.Proofs.YtdjnneflpkllmaaDoorW.PrintWords Go.Proofs.YtdjnneflpkllmaaDoorW.PrintLast Go.Proofs.YtdjnneflpkllmaaDoorW.PrintMore
attribute [local go_sem] max2_int min2_int max_two min_two max_three min_three max_four min_four   -- for this text's walks alone
set_option linter.unusedVariables false
set_option linter.unusedSimpArgs false
def merinoref01_gcdD.l0 : Nat → List Int → List Int → Option (List Int)
  | 0, _, _ => none
  | k + 1, x0, x1 => if (x1.length : Int) > 0 then ((merinoref01_divD.f k x0 x1).bind fun bt418 => (merinoref01_gcdD.l0 k x1 bt418.2)) else (some x0)
def merinoref01_gcdD.f (k : Nat) (l0 : List Int) (l1 : List Int) : Option (List Int) := merinoref01_gcdD.l0 k l0 l1
theorem merinoref01_gcdD.mono_l : ∀ k, (∀ y0 y1, LeO (merinoref01_gcdD.l0 k y0 y1) (merinoref01_gcdD.l0 (k + 1) y0 y1))
  | 0 => fun _ _ r h => by simp [merinoref01_gcdD.l0] at h
  | k + 1 => by
    have ih0 := merinoref01_gcdD.mono_l k
    · intro y0 y1
      unfold merinoref01_gcdD.l0
      repeat' first
      | (with_reducible exact ih0 _ _)
      | (with_reducible exact merinoref01_divD.mono _ _ _)
      | (with_reducible exact LeO.refl _)
      | (with_reducible exact LeO.none _)
      | (with_reducible refine LeO.ite ?_ ?_)
      | (with_reducible refine LeO.bind ?_ (fun _ => ?_))
      | exact ih0 _ _
      | exact merinoref01_divD.mono _ _ _
      | exact LeO.none _
      | refine LeO.ite ?_ ?_
      | refine LeO.bind ?_ (fun _ => ?_)
theorem merinoref01_gcdD.mono : ∀ a0 a1 k, LeO (merinoref01_gcdD.f k a0 a1) (merinoref01_gcdD.f (k + 1) a0 a1) := by
  intro a0 a1 k
  have ih0 := merinoref01_gcdD.mono_l k
  unfold merinoref01_gcdD.f
  repeat' first
      | (with_reducible exact ih0 _ _)
      | (with_reducible exact merinoref01_divD.mono _ _ _)
      | (with_reducible exact LeO.refl _)
      | (with_reducible exact LeO.none _)
      | (with_reducible refine LeO.ite ?_ ?_)
      | (with_reducible refine LeO.bind ?_ (fun _ => ?_))
      | exact ih0 _ _
      | exact merinoref01_divD.mono _ _ _
      | exact LeO.none _
      | refine LeO.ite ?_ ?_
      | refine LeO.bind ?_ (fun _ => ?_)
end Go.Proofs.YtdjnneflpkllmaaDoor.Q

namespace Go.Proofs.YtdjnneflpkllmaaDoor.Q
open Go.RowKit Go.Proofs.YtdjnneflpkllmaaDoorW.PrintWords Go.Proofs.YtdjnneflpkllmaaDoorW.PrintLast Go.Proofs.YtdjnneflpkllmaaDoorW.PrintMore
attribute [local go_sem] max2_int min2_int max_two min_two max_three min_three max_four min_four   -- for this text's walks alone
set_option linter.unusedVariables false
set_option linter.unusedSimpArgs false
def merinoref01_Lowest.core (k : Nat) (a0_0 : Bool) (l0_1 : List Int) (a1_0 : Bool) (l1_1 : List Int) : Option (Int × Int × Int) := (merinoref01_gcdD.f k l0_1 l1_1).bind fun t427 => ((merinoref01_divD.f k l0_1 t427).bind fun bt430 => ((merinoref01_divD.f k l1_1 t427).bind fun bt436 => ((merinoref01_whole.f k a0_0 bt430.1).bind fun bt442 => ((merinoref01_Within.f k bt442.1 bt442.2 1099511627776).bind fun bt446 => ((merinoref01_whole.f k false bt436.1).bind fun bt448 => ((merinoref01_Within.f k bt448.1 bt448.2 1048576).bind fun bt452 => (if bt446.2 = true then (if bt452.2 = true then (some (bt446.1, bt452.1, 0)) else (some (0, 0, 4))) else (some (0, 0, 4)))))))))
theorem merinoref01_Lowest.core_mono : ∀ a0 a1 a2 a3 k, LeO (merinoref01_Lowest.core k a0 a1 a2 a3) (merinoref01_Lowest.core (k + 1) a0 a1 a2 a3) := by
  intro a0 a1 a2 a3 k
  unfold merinoref01_Lowest.core
  repeat' first
      | (with_reducible exact merinoref01_Within.mono _ _ _ _)
      | (with_reducible exact merinoref01_divD.mono _ _ _)
      | (with_reducible exact merinoref01_gcdD.mono _ _ _)
      | (with_reducible exact merinoref01_whole.mono _ _ _)
      | (with_reducible exact LeO.refl _)
      | (with_reducible exact LeO.none _)
      | (with_reducible refine LeO.ite ?_ ?_)
      | (with_reducible refine LeO.bind ?_ (fun _ => ?_))
      | exact merinoref01_Within.mono _ _ _ _
      | exact merinoref01_divD.mono _ _ _
      | exact merinoref01_gcdD.mono _ _ _
      | exact merinoref01_whole.mono _ _ _
      | exact LeO.none _
      | refine LeO.ite ?_ ?_
      | refine LeO.bind ?_ (fun _ => ?_)
end Go.Proofs.YtdjnneflpkllmaaDoor.Q

namespace Go.Proofs.YtdjnneflpkllmaaDoor.Q
open Go.RowKit Go.Proofs.YtdjnneflpkllmaaDoorW.PrintWords Go.Proofs.YtdjnneflpkllmaaDoorW.PrintLast Go.Proofs.YtdjnneflpkllmaaDoorW.PrintMore
attribute [local go_sem] max2_int min2_int max_two min_two max_three min_three max_four min_four   -- for this text's walks alone
set_option linter.unusedVariables false
set_option linter.unusedSimpArgs false
end Go.Proofs.YtdjnneflpkllmaaDoor.Q

namespace Go.Proofs.YtdjnneflpkllmaaDoor.Q
open Go.RowKit Go.Proofs.YtdjnneflpkllmaaDoorW.PrintWords Go.Proofs.YtdjnneflpkllmaaDoorW.PrintLast Go.Proofs.YtdjnneflpkllmaaDoorW.PrintMore
attribute [local go_sem] max2_int min2_int max_two min_two max_three min_three max_four min_four   -- for this text's walks alone
set_option linter.unusedVariables false
set_option linter.unusedSimpArgs false
def merinoref01_Lowest.f (k : Nat) (a0_0 : Bool) (l0_1 : List Int) (a1_0 : Bool) (l1_1 : List Int) : Option (Int × Int × Int) := if a1_0 = true then ((merinoref01_Neg.f k a0_0 l0_1).bind fun bn => ((merinoref01_Neg.f k true l1_1).bind fun bd => merinoref01_Lowest.core k bn.1 bn.2 bd.1 bd.2)) else merinoref01_Lowest.core k a0_0 l0_1 false l1_1
theorem merinoref01_Lowest.mono : ∀ a0 a1 a2 a3 k, LeO (merinoref01_Lowest.f k a0 a1 a2 a3) (merinoref01_Lowest.f (k + 1) a0 a1 a2 a3) := by
  intro a0 a1 a2 a3 k
  unfold merinoref01_Lowest.f
  exact LeO.ite (LeO.bind (merinoref01_Neg.mono _ _ _) (fun _ => LeO.bind (merinoref01_Neg.mono _ _ _) (fun _ => merinoref01_Lowest.core_mono _ _ _ _ k))) (merinoref01_Lowest.core_mono _ _ _ _ k)
end Go.Proofs.YtdjnneflpkllmaaDoor.Q

namespace Go.Proofs.YtdjnneflpkllmaaDoor.Q
open Go.RowKit Go.Proofs.YtdjnneflpkllmaaDoorW.PrintWords Go.Proofs.YtdjnneflpkllmaaDoorW.PrintLast Go.Proofs.YtdjnneflpkllmaaDoorW.PrintMore
attribute [local go_sem] max2_int min2_int max_two min_two max_three min_three max_four min_four   -- for this text's walks alone
set_option linter.unusedVariables false
set_option linter.unusedSimpArgs false
mutual
def merinoref01_FromPath.j0 : Nat → List Int → Bool → Option (Int × Int × Int)
  | 0, _, _ => none
  | k + 1, x0, x28 => if x28 = true then (some (0, 0, 2)) else (merinoref01_FromPath.l0 k x0 1)
def merinoref01_FromPath.l0 : Nat → List Int → Int → Option (Int × Int × Int)
  | 0, _, _ => none
  | k + 1, x0, x4 => if x4 < (x0.length : Int) then (if 0 ≤ x4 then (if (rd x0 x4) < 1 then (some (0, 0, 2)) else (merinoref01_FromPath.l0 k x0 (wrap64 (x4 + 1)))) else (none)) else (if 0 ≤ (wrap64 ((x0.length : Int) - 1)) then (if (wrap64 ((x0.length : Int) - 1)) < (x0.length : Int) then ((merinoref01_Of.f k (rd x0 (wrap64 ((x0.length : Int) - 1)))).bind fun bt645 => ((merinoref01_Of.f k 1).bind fun bt649 => (merinoref01_FromPath.l1 k x0 (wrap64 ((x0.length : Int) - 2)) bt645.1 bt645.2 bt649.1 bt649.2))) else (none)) else (none))
def merinoref01_FromPath.l1 : Nat → List Int → Int → Bool → List Int → Bool → List Int → Option (Int × Int × Int)
  | 0, _, _, _, _, _, _ => none
  | k + 1, x0, x7, x654000, x654001, x655000, x655001 => if x7 ≥ 0 then (if 0 ≤ x7 then (if x7 < (x0.length : Int) then ((merinoref01_Of.f k (rd x0 x7)).bind fun bt656 => ((merinoref01_Times.f k bt656.1 bt656.2 x654000 x654001).bind fun bt660 => ((merinoref01_Plus.f k bt660.1 bt660.2 x655000 x655001).bind fun bt664 => (merinoref01_FromPath.l1 k x0 (wrap64 (x7 - 1)) bt664.1 bt664.2 x654000 x654001)))) else (none)) else (none)) else ((merinoref01_Lowest.f k x654000 x654001 x655000 x655001).bind fun bt668 => (some (bt668.1, bt668.2.1, bt668.2.2)))
end
def merinoref01_FromPath.f (k : Nat) (l0 : List Int) : Option (Int × Int × Int) := if (l0.length : Int) > 64 then (some (0, 0, 3)) else (if (l0.length : Int) = 0 then (merinoref01_FromPath.j0 k l0 true) else (if (l0.length : Int) > 1 then (if 0 ≤ (wrap64 ((l0.length : Int) - 1)) then (if (wrap64 ((l0.length : Int) - 1)) < (l0.length : Int) then (merinoref01_FromPath.j0 k l0 ((rd l0 (wrap64 ((l0.length : Int) - 1))) == 1)) else (none)) else (none)) else (merinoref01_FromPath.j0 k l0 false)))
theorem merinoref01_FromPath.mono_l : ∀ k, (∀ y0 y1, LeO (merinoref01_FromPath.j0 k y0 y1) (merinoref01_FromPath.j0 (k + 1) y0 y1)) ∧ (∀ y0 y1, LeO (merinoref01_FromPath.l0 k y0 y1) (merinoref01_FromPath.l0 (k + 1) y0 y1)) ∧ (∀ y0 y1 y2 y3 y4 y5, LeO (merinoref01_FromPath.l1 k y0 y1 y2 y3 y4 y5) (merinoref01_FromPath.l1 (k + 1) y0 y1 y2 y3 y4 y5))
  | 0 => ⟨fun _ _ r h => by simp [merinoref01_FromPath.j0] at h, fun _ _ r h => by simp [merinoref01_FromPath.l0] at h, fun _ _ _ _ _ _ r h => by simp [merinoref01_FromPath.l1] at h⟩
  | k + 1 => by
    obtain ⟨ih0, ih1, ih2⟩ := merinoref01_FromPath.mono_l k
    refine ⟨?_, ?_, ?_⟩
    · intro y0 y1
      unfold merinoref01_FromPath.j0
      repeat' first
      | (with_reducible exact ih0 _ _)
      | (with_reducible exact ih1 _ _)
      | (with_reducible exact ih2 _ _ _ _ _ _)
      | (with_reducible exact merinoref01_Lowest.mono _ _ _ _ _)
      | (with_reducible exact merinoref01_Of.mono _ _)
      | (with_reducible exact merinoref01_Plus.mono _ _ _ _ _)
      | (with_reducible exact merinoref01_Times.mono _ _ _ _ _)
      | (with_reducible exact LeO.refl _)
      | (with_reducible exact LeO.none _)
      | (with_reducible refine LeO.ite ?_ ?_)
      | (with_reducible refine LeO.bind ?_ (fun _ => ?_))
      | exact ih0 _ _
      | exact ih1 _ _
      | exact ih2 _ _ _ _ _ _
      | exact merinoref01_Lowest.mono _ _ _ _ _
      | exact merinoref01_Of.mono _ _
      | exact merinoref01_Plus.mono _ _ _ _ _
      | exact merinoref01_Times.mono _ _ _ _ _
      | exact LeO.none _
      | refine LeO.ite ?_ ?_
      | refine LeO.bind ?_ (fun _ => ?_)
    · intro y0 y1
      unfold merinoref01_FromPath.l0
      repeat' first
      | (with_reducible exact ih0 _ _)
      | (with_reducible exact ih1 _ _)
      | (with_reducible exact ih2 _ _ _ _ _ _)
      | (with_reducible exact merinoref01_Lowest.mono _ _ _ _ _)
      | (with_reducible exact merinoref01_Of.mono _ _)
      | (with_reducible exact merinoref01_Plus.mono _ _ _ _ _)
      | (with_reducible exact merinoref01_Times.mono _ _ _ _ _)
      | (with_reducible exact LeO.refl _)
      | (with_reducible exact LeO.none _)
      | (with_reducible refine LeO.ite ?_ ?_)
      | (with_reducible refine LeO.bind ?_ (fun _ => ?_))
      | exact ih0 _ _
      | exact ih1 _ _
      | exact ih2 _ _ _ _ _ _
      | exact merinoref01_Lowest.mono _ _ _ _ _
      | exact merinoref01_Of.mono _ _
      | exact merinoref01_Plus.mono _ _ _ _ _
      | exact merinoref01_Times.mono _ _ _ _ _
      | exact LeO.none _
      | refine LeO.ite ?_ ?_
      | refine LeO.bind ?_ (fun _ => ?_)
    · intro y0 y1 y2 y3 y4 y5
      unfold merinoref01_FromPath.l1
      repeat' first
      | (with_reducible exact ih0 _ _)
      | (with_reducible exact ih1 _ _)
      | (with_reducible exact ih2 _ _ _ _ _ _)
      | (with_reducible exact merinoref01_Lowest.mono _ _ _ _ _)
      | (with_reducible exact merinoref01_Of.mono _ _)
      | (with_reducible exact merinoref01_Plus.mono _ _ _ _ _)
      | (with_reducible exact merinoref01_Times.mono _ _ _ _ _)
      | (with_reducible exact LeO.refl _)
      | (with_reducible exact LeO.none _)
      | (with_reducible refine LeO.ite ?_ ?_)
      | (with_reducible refine LeO.bind ?_ (fun _ => ?_))
      | exact ih0 _ _
      | exact ih1 _ _
      | exact ih2 _ _ _ _ _ _
      | exact merinoref01_Lowest.mono _ _ _ _ _
      | exact merinoref01_Of.mono _ _
      | exact merinoref01_Plus.mono _ _ _ _ _
      | exact merinoref01_Times.mono _ _ _ _ _
      | exact LeO.none _
      | refine LeO.ite ?_ ?_
      | refine LeO.bind ?_ (fun _ => ?_)
theorem merinoref01_FromPath.mono : ∀ a0 k, LeO (merinoref01_FromPath.f k a0) (merinoref01_FromPath.f (k + 1) a0) := by
  intro a0 k
  obtain ⟨ih0, ih1, ih2⟩ := merinoref01_FromPath.mono_l k
  unfold merinoref01_FromPath.f
  repeat' first
      | (with_reducible exact ih0 _ _)
      | (with_reducible exact ih1 _ _)
      | (with_reducible exact ih2 _ _ _ _ _ _)
      | (with_reducible exact merinoref01_Lowest.mono _ _ _ _ _)
      | (with_reducible exact merinoref01_Of.mono _ _)
      | (with_reducible exact merinoref01_Plus.mono _ _ _ _ _)
      | (with_reducible exact merinoref01_Times.mono _ _ _ _ _)
      | (with_reducible exact LeO.refl _)
      | (with_reducible exact LeO.none _)
      | (with_reducible refine LeO.ite ?_ ?_)
      | (with_reducible refine LeO.bind ?_ (fun _ => ?_))
      | exact ih0 _ _
      | exact ih1 _ _
      | exact ih2 _ _ _ _ _ _
      | exact merinoref01_Lowest.mono _ _ _ _ _
      | exact merinoref01_Of.mono _ _
      | exact merinoref01_Plus.mono _ _ _ _ _
      | exact merinoref01_Times.mono _ _ _ _ _
      | exact LeO.none _
      | refine LeO.ite ?_ ?_
      | refine LeO.bind ?_ (fun _ => ?_)
end Go.Proofs.YtdjnneflpkllmaaDoor.Q

namespace Go.Proofs.YtdjnneflpkllmaaDoor.Q
open Go.RowKit Go.Proofs.YtdjnneflpkllmaaDoorW.PrintWords Go.Proofs.YtdjnneflpkllmaaDoorW.PrintLast Go.Proofs.YtdjnneflpkllmaaDoorW.PrintMore
attribute [local go_sem] max2_int min2_int max_two min_two max_three min_three max_four min_four   -- for this text's walks alone
set_option linter.unusedVariables false
set_option linter.unusedSimpArgs false
theorem full_cap {c : Nat} {F l : List Int} (hc : F.length ≤ c) (e : F = l ++ [77, 77]) : l.length ≤ c := by
  have : F.length = l.length + 2 := by rw [e]; simp
  omega
theorem full_take {w : World} {A : Option Addr} {c : Nat} {F l : List Int} (h : Kd.C (Kd.int .i64) w A F.length F) (hc : F.length ≤ c) (e : F = l ++ [77, 77]) : Kd.C (Kd.int .i64) w A l.length l := by
  have hl : F.length = l.length + 2 := by rw [e]; simp
  obtain ⟨i0, hi0, _, hsz, _⟩ := info_parts info3
  obtain ⟨_, hA, _⟩ := print_take_of (P := Tryd.prog) (Value.int .i64) 0 29 3 .i64 Tryd.underlying29 hi0 hsz A c F (l.length : Int) (by omega) (by omega) hc
  have := Kd.C_of_reads (h1 := fun _ => rfl) (hA _ (Kd.reads_of_C h))
  have et : F.take ((l.length : Int)).toNat = l := by rw [e, Int.toNat_natCast, List.take_left']; rfl
  rw [et] at this
  exact this
theorem kept_whole (k : Nat) (A0 : Option Addr) (c0 : Nat) (F : List Int) (A1 : Option Addr) (c1 : Nat) (l1 : List Int) (w : World) (hF : Kd.C (Kd.int .i64) w A0 F.length F) (hcF : F.length ≤ c0) (hr1 : Kd.C (Kd.int .i64) w A1 l1.length l1) (hc1 : l1.length ≤ c1)
    (h : F = l1 ++ [77, 77] ∧ l1.length ≤ 1000000 ∧ merinolaw01_same.f k l1 l1 = some true) :
    Calls Tryd.prog 42 #[.slice A0 l1.length c0, .slice A1 l1.length c1] w fun e w' => e = .returned (.bool true) ∧ Drawn0 w w' := by
  obtain ⟨e, hsm, hs⟩ := h
  have hl : F.length = l1.length + 2 := by rw [e]; simp
  refine merinolaw01_kept.full k A0 c0 l1 F A1 c1 l1 w (full_take hF hcF e) hF hcF hl rfl hr1 hc1 hsm hs ?_ ?_
  · rw [e]; simp [rd]
  · rw [e, show (l1.length : Int) + 1 = ((l1.length + 1 : Nat) : Int) by omega]; simp [rd]
end Go.Proofs.YtdjnneflpkllmaaDoor.Q

namespace Go.Proofs.YtdjnneflpkllmaaDoor.Q
open Go.RowKit Go.Proofs.YtdjnneflpkllmaaDoorW.PrintWords Go.Proofs.YtdjnneflpkllmaaDoorW.PrintLast Go.Proofs.YtdjnneflpkllmaaDoorW.PrintMore
attribute [local go_sem] max2_int min2_int max_two min_two max_three min_three max_four min_four   -- for this text's walks alone
set_option linter.unusedVariables false
set_option linter.unusedSimpArgs false
set_option maxHeartbeats 8000000 in
set_option maxRecDepth 100000 in
theorem merinolaw01_NumMeans.both (k : Nat) (A0 : Option Addr) (c0 : Nat) (l0 : List Int) (A1 : Option Addr) (c1 : Nat) (l1 : List Int) (a2 : Int) (t1205 : List Int) (t1208 : List Int) (t1211 : _) (t1212 : _) (w : World) (hr0 : Kd.C (Kd.int .i64) w A0 l0.length l0) (hc0 : l0.length ≤ c0) (hr1 : Kd.C (Kd.int .i64) w A1 l1.length l1) (hc1 : l1.length ≤ c1) (A5_ : merinolaw01_few.f l0 = some true) (A7_ : merinolaw01_few.f l1 = some true) (A11_ : merinolaw01_fullc.f k l0 = some t1205) (A12_ : merinolaw01_fullc.f k l1 = some t1208) (A13_ : num_Mean.f k l0 l1 a2 = some (t1211, t1212)) (A14_ : merinoref01_Mean.f k l0 l1 a2 = some (t1211, t1212)) (hft1205 : t1205 = l0 ++ [77, 77]) (hst1205 : l0.length ≤ 1000000) (hmt1205 : merinolaw01_same.f k l0 l0 = some true) (hft1208 : t1208 = l1 ++ [77, 77]) (hst1208 : l1.length ≤ 1000000) (hmt1208 : merinolaw01_same.f k l1 l1 = some true) :
    Calls Tryd.prog 15 #[.slice A0 l0.length c0, .slice A1 l1.length c1, .int .i64 a2] w fun e w' => e = .returned (.bool true) ∧ Below w.heap.size w w' := by
  have HR0 := Aside0.mk hr0
  clear hr0
  have HC0 := Aside0.mk hc0
  clear hc0
  have HR1 := Aside0.mk hr1
  clear hr1
  have HC1 := Aside0.mk hc1
  clear hc1
  have HB := Aside0.mk (Below.refl w.heap.size w)
  have HFt1205 := Aside0.mk hft1205
  have HFt1208 := Aside0.mk hft1208
  have A5 := Aside0.mk A5_
  have A7 := Aside0.mk A7_
  have A11 := Aside0.mk A11_
  have A12 := Aside0.mk A12_
  have A13 := Aside0.mk A13_
  have A14 := Aside0.mk A14_
  have A17 : Aside0 (t1205 = l0 ++ [77, 77] ∧ l0.length ≤ 1000000 ∧ merinolaw01_same.f k l0 l0 = some true) := ⟨hft1205, hst1205, hmt1205⟩
  have A19 : Aside0 (t1208 = l1 ++ [77, 77] ∧ l1.length ≤ 1000000 ∧ merinolaw01_same.f k l1 l1 = some true) := ⟨hft1208, hst1208, hmt1208⟩
  have A21 : Aside0 (merinolaw01_alive.f = some true) := ⟨rfl⟩
  have y0 : (t1211 == t1211) = true := by simp
  have z0 : (t1211 != t1211) = false := by simp
  have y1 : (t1212 == t1212) = true := by simp
  have z1 : (t1212 != t1212) = false := by simp
  clear A5_ A7_ A11_ A12_ A13_ A14_ hft1205 hst1205 hmt1205 hft1208 hst1208 hmt1208
  go_enter Tryd.func15, Tryd.ntmps15
  go_wp2_with (first | ((with_reducible refine gate_callee (f := 35) rfl ?_); refine goesL_ (some 14) rfl rfl Tryd.func35 (by kernel_rfl) rfl #[.slice A0 l0.length c0] rfl qe_ ?_; (with_reducible refine (merinolaw01_few.calls _ _ l0 true _ ?side1 ?side2 A5.out).mono ?_); (case side1 => exact qc_ (Kd.C_below HR0.out HB.out)); (case side2 => exact HC0.out); rintro e w' ⟨rfl, ⟨nd, rfl⟩⟩; refine ⟨_, rfl, ?_⟩) | (go_at_call 35; (with_reducible refine (merinolaw01_few.calls _ _ l1 true _ ?side1 ?side2 A7.out).mono ?_); (case side1 => repeat (first | exact (Kd.C_below HR1.out (q0_ HB.out)) | (with_reducible refine Kd.C_alloc ?_ _) | (with_reducible refine Kd.C_drewN ?_ _) | (with_reducible refine Kd.C_drew ?_))); (case side2 => exact HC1.out); rintro e w' ⟨rfl, ⟨nd, rfl⟩⟩) | ((with_reducible refine gate_callee (f := 36) rfl ?_); refine goesL_ (some 23) rfl rfl Tryd.func36 (by kernel_rfl) rfl #[.slice A0 l0.length c0] rfl qe_ ?_; (with_reducible refine (merinolaw01_fullc.calls k _ _ l0 t1205 _ ?side1 ?side2 A11.out).mono ?_); (case side1 => exact qc_ (Kd.C_below HR0.out HB.out)); (case side2 => exact HC0.out); rintro e w22 ⟨Ao24, co24, rfl, ho0, hb⟩; refine ⟨_, rfl, ?_⟩; have n0_ := Aside0.mk (Kd.R_lower ho0 (below_size (q0_ HB.out))); have n1_ := Aside0.mk (below_step (q0_ HB.out) hb); clear HB; have HO1207 := n0_; have HB := n1_; clear n0_ n1_; (try clear hb); (try clear hb2); (try clear hk); (try clear hi); (try clear ho0)) | ((with_reducible refine gate_callee (f := 36) rfl ?_); refine goesL_ (some 25) rfl rfl Tryd.func36 (by kernel_rfl) rfl #[.slice A1 l1.length c1] rfl qe_ ?_; (with_reducible refine (merinolaw01_fullc.calls k _ _ l1 t1208 _ ?side1 ?side2 A12.out).mono ?_); (case side1 => exact qc_ (Kd.C_below HR1.out HB.out)); (case side2 => exact HC1.out); rintro e w23 ⟨Ao25, co25, rfl, ho0, hb⟩; refine ⟨_, rfl, ?_⟩; have n0_ := Aside0.mk (Kd.R_elder' (qr_ HO1207.out) (Kd.R_base ho0) hb); have n1_ := Aside0.mk (Kd.R_lower (Kd.R_new' ho0 (Kd.R_lt (qr_ HO1207.out))) (below_size (q0_ HB.out))); have n2_ := Aside0.mk (below_step (q0_ HB.out) hb); clear HO1207; clear HB; have HO1207 := n0_; have HO1210 := n1_; have HB := n2_; clear n0_ n1_ n2_; (try clear hb); (try clear hb2); (try clear hk); (try clear hi); (try clear ho0)) | ((with_reducible refine gate_callee (f := 56) rfl ?_); refine goesL_ (some 30) rfl rfl Tryd.func56 (by kernel_rfl) rfl #[.slice Ao24 l0.length co24, .slice Ao25 l1.length co25, .int .i64 a2] rfl qe_ ?_; (with_reducible refine (num_Mean.calls k _ _ l0 _ _ l1 a2 t1211 t1212 _ ?side1 ?side2 ?side3 ?side4 A13.out).mono ?_); (case side1 => repeat (first | exact full_take (Kd.R_reads' HO1207.out).2.2 (Kd.R_reads' HO1207.out).2.1 HFt1205.out | (with_reducible refine Kd.C_alloc ?_ _) | (with_reducible refine Kd.C_drewN ?_ _) | (with_reducible refine Kd.C_drew ?_))); (case side2 => exact full_cap (Kd.R_reads' HO1207.out).2.1 HFt1205.out); (case side3 => repeat (first | exact full_take (Kd.R_reads' HO1210.out).2.2 (Kd.R_reads' HO1210.out).2.1 HFt1208.out | (with_reducible refine Kd.C_alloc ?_ _) | (with_reducible refine Kd.C_drewN ?_ _) | (with_reducible refine Kd.C_drew ?_))); (case side4 => exact full_cap (Kd.R_reads' HO1210.out).2.1 HFt1208.out); rintro e w' ⟨rfl, ⟨nd, rfl⟩⟩; refine ⟨_, rfl, ?_⟩) | ((with_reducible refine gate_callee (f := 57) rfl ?_); refine goesL_ (some 37) rfl rfl Tryd.func57 (by kernel_rfl) rfl #[.slice A0 l0.length c0, .slice A1 l1.length c1, .int .i64 a2] rfl qe_ ?_; (with_reducible refine (merinoref01_Mean.calls k _ _ l0 _ _ l1 a2 t1211 t1212 _ ?side1 ?side2 ?side3 ?side4 A14.out).mono ?_); (case side1 => repeat (first | exact (Kd.C_below HR0.out (q0_ HB.out)) | (with_reducible refine Kd.C_alloc ?_ _) | (with_reducible refine Kd.C_drewN ?_ _) | (with_reducible refine Kd.C_drew ?_))); (case side2 => exact HC0.out); (case side3 => repeat (first | exact (Kd.C_below HR1.out (q0_ HB.out)) | (with_reducible refine Kd.C_alloc ?_ _) | (with_reducible refine Kd.C_drewN ?_ _) | (with_reducible refine Kd.C_drew ?_))); (case side4 => exact HC1.out); rintro e w26 ⟨rfl, hb⟩; refine ⟨_, rfl, ?_⟩; have n0_ := Aside0.mk (Kd.R_below (qr_ HO1207.out) hb); have n1_ := Aside0.mk (Kd.R_below (qr_ HO1210.out) hb); have n2_ := Aside0.mk (below_step (q0_ HB.out) hb); clear HO1207; clear HO1210; clear HB; have HO1207 := n0_; have HO1210 := n1_; have HB := n2_; clear n0_ n1_ n2_; (try clear hb); (try clear hb2); (try clear hk); (try clear hi)) | (go_at_call 42; (with_reducible refine (kept_whole k _ _ t1205 _ _ l0 _ ?side1 ?side2 ?side3 ?side4 A17.out).mono ?_); (case side1 => exact qc_ (Kd.R_reads' HO1207.out).2.2); (case side2 => exact (Kd.R_reads' HO1207.out).2.1); (case side3 => exact qc_ (Kd.C_below HR0.out HB.out)); (case side4 => exact HC0.out); rintro e w' ⟨rfl, ⟨nd, rfl⟩⟩) | (go_at_call 42; (with_reducible refine (kept_whole k _ _ t1208 _ _ l1 _ ?side1 ?side2 ?side3 ?side4 A19.out).mono ?_); (case side1 => exact qc_ (Kd.R_reads' HO1210.out).2.2); (case side2 => exact (Kd.R_reads' HO1210.out).2.1); (case side3 => repeat (first | exact (Kd.C_below HR1.out (q0_ HB.out)) | (with_reducible refine Kd.C_alloc ?_ _) | (with_reducible refine Kd.C_drewN ?_ _) | (with_reducible refine Kd.C_drew ?_))); (case side4 => exact HC1.out); rintro e w' ⟨rfl, ⟨nd, rfl⟩⟩) | (go_at_call 21; (with_reducible refine (merinolaw01_alive.calls  true _ A21.out).mono ?_); rintro e w27 ⟨rfl, hb⟩; have n0_ := Aside0.mk (Kd.R_below (qr_ HO1207.out) hb); have n1_ := Aside0.mk (Kd.R_below (qr_ HO1210.out) hb); have n2_ := Aside0.mk (below_step (q0_ HB.out) hb); clear HO1207; clear HO1210; clear HB; have HO1207 := n0_; have HO1210 := n1_; have HB := n2_; clear n0_ n1_ n2_; (try clear hb); (try clear hb2); (try clear hk); (try clear hi)))
  go_ret
  exact ⟨by first | rfl | (simp [errW_none, errW_some] <;> rfl) | (simp [*, errW_none, errW_some] <;> rfl), (q0_ HB.out)⟩
set_option maxHeartbeats 8000000 in
set_option maxRecDepth 100000 in
theorem merinolaw01_NumMeans.long0 (A0 : Option Addr) (c0 : Nat) (l0 : List Int) (A1 : Option Addr) (c1 : Nat) (l1 : List Int) (a2 : Int) (w : World) (hr0 : Kd.C (Kd.int .i64) w A0 l0.length l0) (hc0 : l0.length ≤ c0) (hr1 : Kd.C (Kd.int .i64) w A1 l1.length l1) (hc1 : l1.length ≤ c1) (A0_ : merinolaw01_few.f l0 = some false) :
    Calls Tryd.prog 15 #[.slice A0 l0.length c0, .slice A1 l1.length c1, .int .i64 a2] w fun e w' => e = .returned (.bool true) ∧ Below w.heap.size w w' := by
  have HR0 := Aside0.mk hr0
  clear hr0
  have HC0 := Aside0.mk hc0
  clear hc0
  have HR1 := Aside0.mk hr1
  clear hr1
  have HC1 := Aside0.mk hc1
  clear hc1
  have HB := Aside0.mk (Below.refl w.heap.size w)
  have A5 := Aside0.mk A0_
  clear A0_
  have A9 : Aside0 (merinolaw01_alive.f = some true) := ⟨rfl⟩
  go_enter Tryd.func15, Tryd.ntmps15
  go_wp2_with (first | ((with_reducible refine gate_callee (f := 35) rfl ?_); refine goesL_ (some 14) rfl rfl Tryd.func35 (by kernel_rfl) rfl #[.slice A0 l0.length c0] rfl qe_ ?_; (with_reducible refine (merinolaw01_few.calls _ _ l0 false _ ?side1 ?side2 A5.out).mono ?_); (case side1 => exact qc_ (Kd.C_below HR0.out HB.out)); (case side2 => exact HC0.out); rintro e w' ⟨rfl, ⟨nd, rfl⟩⟩; refine ⟨_, rfl, ?_⟩) | ((with_reducible refine gate_callee (f := 21) rfl ?_); refine goesL_ (some 21) rfl rfl Tryd.func21 (by kernel_rfl) rfl #[] rfl qe_ ?_; (with_reducible refine (merinolaw01_alive.calls  true _ A9.out).mono ?_); rintro e w10 ⟨rfl, hb⟩; refine ⟨_, rfl, ?_⟩; have n0_ := Aside0.mk (below_step (q0_ HB.out) hb); clear HB; have HB := n0_; clear n0_; (try clear hb); (try clear hb2); (try clear hk); (try clear hi)))
  go_ret
  exact ⟨by first | rfl | (simp [errW_none, errW_some] <;> rfl) | (simp [*, errW_none, errW_some] <;> rfl), (q0_ HB.out)⟩
set_option maxHeartbeats 8000000 in
set_option maxRecDepth 100000 in
theorem merinolaw01_NumMeans.long1 (A0 : Option Addr) (c0 : Nat) (l0 : List Int) (A1 : Option Addr) (c1 : Nat) (l1 : List Int) (a2 : Int) (w : World) (hr0 : Kd.C (Kd.int .i64) w A0 l0.length l0) (hc0 : l0.length ≤ c0) (hr1 : Kd.C (Kd.int .i64) w A1 l1.length l1) (hc1 : l1.length ≤ c1) (A0_ : merinolaw01_few.f l0 = some true) (A1_ : merinolaw01_few.f l1 = some false) :
    Calls Tryd.prog 15 #[.slice A0 l0.length c0, .slice A1 l1.length c1, .int .i64 a2] w fun e w' => e = .returned (.bool true) ∧ Below w.heap.size w w' := by
  have HR0 := Aside0.mk hr0
  clear hr0
  have HC0 := Aside0.mk hc0
  clear hc0
  have HR1 := Aside0.mk hr1
  clear hr1
  have HC1 := Aside0.mk hc1
  clear hc1
  have HB := Aside0.mk (Below.refl w.heap.size w)
  have A5 := Aside0.mk A0_
  clear A0_
  have A7 := Aside0.mk A1_
  clear A1_
  have A9 : Aside0 (merinolaw01_alive.f = some true) := ⟨rfl⟩
  go_enter Tryd.func15, Tryd.ntmps15
  go_wp2_with (first | ((with_reducible refine gate_callee (f := 35) rfl ?_); refine goesL_ (some 14) rfl rfl Tryd.func35 (by kernel_rfl) rfl #[.slice A0 l0.length c0] rfl qe_ ?_; (with_reducible refine (merinolaw01_few.calls _ _ l0 true _ ?side1 ?side2 A5.out).mono ?_); (case side1 => exact qc_ (Kd.C_below HR0.out HB.out)); (case side2 => exact HC0.out); rintro e w' ⟨rfl, ⟨nd, rfl⟩⟩; refine ⟨_, rfl, ?_⟩) | (go_at_call 35; (with_reducible refine (merinolaw01_few.calls _ _ l1 false _ ?side1 ?side2 A7.out).mono ?_); (case side1 => repeat (first | exact (Kd.C_below HR1.out (q0_ HB.out)) | (with_reducible refine Kd.C_alloc ?_ _) | (with_reducible refine Kd.C_drewN ?_ _) | (with_reducible refine Kd.C_drew ?_))); (case side2 => exact HC1.out); rintro e w' ⟨rfl, ⟨nd, rfl⟩⟩) | ((with_reducible refine gate_callee (f := 21) rfl ?_); refine goesL_ (some 21) rfl rfl Tryd.func21 (by kernel_rfl) rfl #[] rfl qe_ ?_; (with_reducible refine (merinolaw01_alive.calls  true _ A9.out).mono ?_); rintro e w10 ⟨rfl, hb⟩; refine ⟨_, rfl, ?_⟩; have n0_ := Aside0.mk (below_step (q0_ HB.out) hb); clear HB; have HB := n0_; clear n0_; (try clear hb); (try clear hb2); (try clear hk); (try clear hi)))
  go_ret
  exact ⟨by first | rfl | (simp [errW_none, errW_some] <;> rfl) | (simp [*, errW_none, errW_some] <;> rfl), (q0_ HB.out)⟩
end Go.Proofs.YtdjnneflpkllmaaDoor.Q

namespace Go.Proofs.Num
open Go.RowKit Go.Proofs.YtdjnneflpkllmaaDoorW.PrintWords Go.Proofs.YtdjnneflpkllmaaDoorW.PrintMore Go.Proofs.YtdjnneflpkllmaaDoor.Q
set_option linter.unusedVariables false
set_option linter.unusedSimpArgs false
def okV (x : Int) : Prop := -16777216 ≤ x ∧ x ≤ 16777216
def okW (x : Int) : Prop := 0 ≤ x ∧ x ≤ 1073741824
def fineM (p w : List Int) : Prop := ∀ i, i < p.length → okV (at_ p i) ∧ okW (at_ w i)
/-- The weighted sum. -/
def wsum (p w : List Int) : Nat → Int := sumTo (fun i => at_ p i * at_ w i)
theorem wsum_bd {p w : List Int} : ∀ {n : Nat}, (∀ i, i < n → okV (at_ p i) ∧ okW (at_ w i)) → ((wsum p w n).natAbs : Int) ≤ 16777216 * sumTo (at_ w) n
  | 0, _ => by simp [wsum, sumTo]
  | n + 1, h => by
    have ih := wsum_bd (p := p) (w := w) (n := n) (fun i hi => h i (by omega))
    obtain ⟨⟨v0, v1⟩, w0, w1⟩ := h n (by omega)
    have a1 := Int.mul_le_mul_of_nonneg_right v1 w0
    have a2 := Int.mul_le_mul_of_nonneg_right v0 w0
    unfold wsum at ih ⊢
    simp only [sumTo]
    omega
theorem asum_bd {w : List Int} : ∀ {n : Nat}, (∀ i, i < n → okW (at_ w i)) → 0 ≤ sumTo (at_ w) n ∧ sumTo (at_ w) n ≤ n * 1073741824
  | 0, _ => by simp [sumTo]
  | n + 1, h => by
    have ih := asum_bd (w := w) (n := n) (fun i hi => h i (by omega))
    obtain ⟨w0, w1⟩ := h n (by omega)
    simp only [sumTo]
    rw [Int.natCast_add, Int.add_mul]
    omega
/-- The end of both. -/
def meanEnd (S A m : Int) : Int × Int := if A = 0 then (0, 5) else (rndF S A m, 0)
def MeanTail (p w : List Int) (m : Int) (v : Int × Int) : Prop :=
  (¬ (fineM p w ∧ 0 ≤ m ∧ m ≤ 4) ∧ v = (0, 2)) ∨ ((fineM p w ∧ 0 ≤ m ∧ m ≤ 4) ∧ v = meanEnd (wsum p w p.length) (sumTo (at_ w) p.length) m)
theorem mean_l1 {p w : List Int} {m : Int} (hl : p.length = w.length) (few : p.length ≤ 256) (hv : ∀ i, i < p.length → okV (at_ p i)) : ∀ (c i : Nat), p.length - i = c → i ≤ p.length → (∀ j, j < i → okW (at_ w j)) →
    ∃ v, Ev (fun k => num_Mean.l1 k p m (wsum p w i) (sumTo (at_ w) i) w (w.length : Int) (i : Int)) v ∧ MeanTail p w m v := by
  intro c
  induction c with
  | zero =>
    intro i hc hi hs
    obtain rfl : i = p.length := by omega
    have fine : fineM p w := fun i hi => ⟨hv i hi, hs i hi⟩
    have b1 := wsum_bd (p := p) (w := w) (n := p.length) fine
    obtain ⟨b2, b3⟩ := asum_bd (w := w) (n := p.length) hs
    have st : ∀ k, num_Mean.l1 (k + 1) p m (wsum p w p.length) (sumTo (at_ w) p.length) w (w.length : Int) (p.length : Int) = (num_mode.f m).bind fun t1163 => (if t1163 = true then (if sumTo (at_ w) p.length = 0 then (some (0, 5)) else ((num_size.f (wsum p w p.length)).bind fun t1164 => ((num_rounded.f k (decide (wsum p w p.length < 0)) 0 t1164 (IntKind.u64.wrap (sumTo (at_ w) p.length)) m).bind fun bt1165 => (some (bt1165.1, 0))))) else (some (0, 2))) := fun k => by
      rw [num_Mean.l1, if_neg (by omega)]
    by_cases hm : 0 ≤ m ∧ m ≤ 4
    · refine ⟨meanEnd (wsum p w p.length) (sumTo (at_ w) p.length) m, ?_, Or.inr ⟨⟨fine, hm⟩, rfl⟩⟩
      unfold meanEnd
      by_cases hz : sumTo (at_ w) p.length = 0
      · rw [if_pos hz]
        exact Ev.step (f := fun _ => some (0, 5)) (fun k => by rw [st, mode_ok, decide_eq_true hm]; simp [hz]) (Ev.now _)
      · rw [if_neg hz]
        have sz := size_ok (a := wsum p w p.length) (by omega) (by omega)
        refine Ev.step (f := fun _ => some (rndF (wsum p w p.length) (sumTo (at_ w) p.length) m, 0)) (fun k => ?_) (Ev.now _)
        rw [st, mode_ok, decide_eq_true hm]
        simp only [Option.bind_some, if_true, if_neg hz, sz]
        rw [wu (x := sumTo (at_ w) p.length) (by omega) (by omega), rounded_low k _ (by omega) (by omega) (by omega) (by omega), rnd_rndF (by omega) hm.1 hm.2]
        rfl
    · refine ⟨(0, 2), ?_, Or.inl ⟨fun h => hm h.2, rfl⟩⟩
      exact Ev.step (f := fun _ => some (0, 2)) (fun k => by rw [st, mode_ok, decide_eq_false hm]; simp) (Ev.now _)
  | succ c ih =>
    intro i hc hi hs
    have b1 := wsum_bd (p := p) (w := w) (n := i) (fun j hj => ⟨hv j (by omega), hs j hj⟩)
    obtain ⟨b2, b3⟩ := asum_bd (w := w) (n := i) hs
    obtain ⟨v0, v1⟩ := hv i (by omega)
    by_cases c1 : okW (at_ w i)
    · obtain ⟨v, E, h⟩ := ih (i + 1) (by omega) (by omega) (fun j hj => by
        rcases Nat.lt_or_ge j i with d | d
        · exact hs j d
        · obtain rfl : j = i := by omega
          exact c1)
      obtain ⟨w0, w1⟩ := c1
      have a1 := Int.mul_le_mul_of_nonneg_right v1 w0
      have a2 := Int.mul_le_mul_of_nonneg_right v0 w0
      refine ⟨v, Ev.step (f := fun k => num_Mean.l1 k p m (wsum p w (i + 1)) (sumTo (at_ w) (i + 1)) w (w.length : Int) ((i + 1 : Nat) : Int)) (fun k => ?_) E, h⟩
      clear h ih
      have e1 : wsum p w (i + 1) = wsum p w i + at_ p i * at_ w i := rfl
      have e2 : sumTo (at_ w) (i + 1) = sumTo (at_ w) i + at_ w i := rfl
      rw [num_Mean.l1, if_pos (by omega), if_pos (by omega), if_pos (by omega), rd_nat, if_neg (by omega), if_neg (by omega), if_pos (by omega), rd_nat, wd64 (x := (i : Int) + 1) (by omega) (by omega), wd64 (x := at_ p i * at_ w i) (by omega) (by omega), wd64 (x := wsum p w i + at_ p i * at_ w i) (by omega) (by omega), wd64 (x := sumTo (at_ w) i + at_ w i) (by omega) (by omega), e1, e2]
      rfl
    · refine ⟨(0, 2), ?_, Or.inl ⟨fun h => c1 (h.1 i (by omega)).2, rfl⟩⟩
      refine Ev.step (f := fun _ => some (0, 2)) (fun k => ?_) (Ev.now _)
      rw [num_Mean.l1, if_pos (by omega), if_pos (by omega), if_pos (by omega), rd_nat]
      unfold okW at c1
      by_cases d : at_ w i < 0
      · rw [if_pos d]
      · rw [if_neg d, if_pos (by omega)]
theorem mean_l0 {p w : List Int} {m : Int} (hl : p.length = w.length) (few : p.length ≤ 256) : ∀ (c i : Nat), p.length - i = c → i ≤ p.length → (∀ j, j < i → okV (at_ p j)) →
    ∃ v, Ev (fun k => num_Mean.l0 k p w m p (p.length : Int) (i : Int)) v ∧ MeanTail p w m v := by
  intro c
  induction c with
  | zero =>
    intro i hc hi hs
    obtain rfl : i = p.length := by omega
    obtain ⟨v, E, h⟩ := mean_l1 (m := m) hl few hs p.length 0 rfl (by omega) (fun j hj => by omega)
    refine ⟨v, Ev.step (f := fun k => num_Mean.l1 k p m (wsum p w 0) (sumTo (at_ w) 0) w (w.length : Int) ((0 : Nat) : Int)) (fun k => ?_) E, h⟩
    rw [num_Mean.l0, if_neg (by omega)]
    rfl
  | succ c ih =>
    intro i hc hi hs
    by_cases c1 : okV (at_ p i)
    · obtain ⟨v, E, h⟩ := ih (i + 1) (by omega) (by omega) (fun j hj => by
        rcases Nat.lt_or_ge j i with d | d
        · exact hs j d
        · obtain rfl : j = i := by omega
          exact c1)
      obtain ⟨v0, v1⟩ := c1
      refine ⟨v, Ev.step (f := fun k => num_Mean.l0 k p w m p (p.length : Int) ((i + 1 : Nat) : Int)) (fun k => ?_) E, h⟩
      clear h ih
      rw [num_Mean.l0, if_pos (by omega), if_pos (by omega), if_pos (by omega), rd_nat, if_neg (by omega), if_neg (by omega), wd64 (x := (i : Int) + 1) (by omega) (by omega)]
      rfl
    · refine ⟨(0, 2), ?_, Or.inl ⟨fun h => c1 (h.1 i (by omega)).1, rfl⟩⟩
      refine Ev.step (f := fun _ => some (0, 2)) (fun k => ?_) (Ev.now _)
      rw [num_Mean.l0, if_pos (by omega), if_pos (by omega), if_pos (by omega), rd_nat]
      unfold okV at c1
      by_cases d : at_ p i < -16777216
      · rw [if_pos d]
      · rw [if_neg d, if_pos (by omega)]
def MeanSaid (p w : List Int) (m : Int) (v : Int × Int) : Prop :=
  if p.length > 256 ∨ w.length > 256 then v = (0, 3) else if p.length = w.length then MeanTail p w m v else v = (0, 2)
theorem MeanSaid.one {p w : List Int} {m : Int} {u v : Int × Int} (h : MeanSaid p w m u) (g : MeanSaid p w m v) : u = v := by
  unfold MeanSaid at h g
  split at h <;> rename_i c1
  · rw [if_pos c1] at g; rw [h, g]
  · rw [if_neg c1] at g
    split at h <;> rename_i c2
    · rw [if_pos c2] at g
      rcases h with ⟨h1, h2⟩ | ⟨h1, h2⟩ <;> rcases g with ⟨g1, g2⟩ | ⟨g1, g2⟩
      · rw [h2, g2]
      · exact (h1 g1).elim
      · exact (g1 h1).elim
      · rw [h2, g2]
    · rw [if_neg c2] at g; rw [h, g]
theorem nmean_ok (p w : List Int) (m : Int) : ∃ v, Ev (fun k => num_Mean.f k p w m) v ∧ MeanSaid p w m v := by
  unfold num_Mean.f MeanSaid
  have bad : Ev (fun k => num_Mean.j0 k p w m true) (0, 3) := Ev.step (f := fun _ => some (0, 3)) (fun k => by rw [num_Mean.j0, if_pos rfl]) (Ev.now _)
  by_cases h1 : p.length > 256
  · refine ⟨(0, 3), ?_, by rw [if_pos (Or.inl h1)]⟩
    simp only [if_pos (show (p.length : Int) > 256 by omega)]
    exact bad
  · simp only [if_neg (show ¬ (p.length : Int) > 256 by omega)]
    by_cases h2 : w.length > 256
    · refine ⟨(0, 3), ?_, by rw [if_pos (Or.inr h2)]⟩
      simp only [decide_eq_true (show (w.length : Int) > 256 by omega)]
      exact bad
    · simp only [decide_eq_false (show ¬ (w.length : Int) > 256 by omega)]
      simp only [if_neg (show ¬ (p.length > 256 ∨ w.length > 256) by omega)]
      by_cases h3 : p.length = w.length
      · simp only [if_pos h3]
        obtain ⟨v, E, hv⟩ := mean_l0 (m := m) h3 (by omega) p.length 0 rfl (by omega) (fun j hj => by omega)
        refine ⟨v, Ev.step (f := fun k => num_Mean.l0 k p w m p (p.length : Int) ((0 : Nat) : Int)) (fun k => ?_) E, hv⟩
        rw [num_Mean.j0, if_neg (by decide), if_pos (by omega)]
        rfl
      · simp only [if_neg h3]
        refine ⟨(0, 2), Ev.step (f := fun _ => some (0, 2)) (fun k => ?_) (Ev.now _), rfl⟩
        rw [num_Mean.j0, if_neg (by decide), if_neg (by omega)]
theorem mean_fits {S A m : Int} (hA : 0 < A) (hS : (S.natAbs : Int) ≤ 16777216 * A) (m0 : 0 ≤ m) (m1 : m ≤ 4) : ((rndF S A m).natAbs : Int) ≤ 16777216 := by
  have q0 : 0 ≤ (S.natAbs : Int) / A := Int.ediv_nonneg (by omega) (by omega)
  have bd := rnd_bd (decide (S < 0)) (q := (S.natAbs : Int) / A) (r := (S.natAbs : Int) % A) (d := A) (m := m) q0
  rw [rnd_rndF hA m0 m1] at bd
  have e := Int.mul_ediv_add_emod (S.natAbs : Int) A
  have r0 := Int.emod_nonneg (S.natAbs : Int) (show A ≠ 0 by omega)
  generalize (S.natAbs : Int) / A = q at *
  generalize (S.natAbs : Int) % A = r at *
  by_cases z : r = 0
  · have := bd.2.2 z
    have : q ≤ 16777216 := Int.le_of_mul_le_mul_left (a := A) (by rw [Int.mul_comm A 16777216]; omega) hA
    omega
  · have : q < 16777216 := Int.lt_of_mul_lt_mul_left (a := A) (by rw [Int.mul_comm A 16777216]; omega) (by omega)
    omega
theorem rmean_l0 {p w : List Int} {m : Int} (hm : 0 ≤ m ∧ m ≤ 4) (hl : p.length = w.length) (few : p.length ≤ 256) : ∀ (c i : Nat), p.length - i = c → i ≤ p.length → (∀ j, j < i → okV (at_ p j) ∧ okW (at_ w j)) → ∀ (b : Bool) (l : List Int), Rep b l (wsum p w i) →
    ∃ v, Ev (fun k => merinoref01_Mean.l0 k p w m (sumTo (at_ w) i) (i : Int) b l) v ∧ MeanTail p w m v := by
  intro c
  induction c with
  | zero =>
    intro i hc hi hs b l R
    obtain rfl : i = p.length := by omega
    have b1 := wsum_bd (p := p) (w := w) (n := p.length) hs
    obtain ⟨b2, b3⟩ := asum_bd (w := w) (n := p.length) (fun j hj => (hs j hj).2)
    refine ⟨meanEnd (wsum p w p.length) (sumTo (at_ w) p.length) m, ?_, Or.inr ⟨⟨hs, hm⟩, rfl⟩⟩
    unfold meanEnd
    by_cases hz : sumTo (at_ w) p.length = 0
    · rw [if_pos hz]
      exact Ev.step (f := fun _ => some (0, 5)) (fun k => by rw [merinoref01_Mean.l0, if_neg (by omega), if_pos hz]) (Ev.now _)
    · rw [if_neg hz]
      have ll := rep_len R (m := 5) (by simp only [pw]; omega)
      obtain ⟨r4, E4, R4, l4⟩ := of_ok (x := sumTo (at_ w) p.length) (by omega) (by omega)
      obtain ⟨r5, E5, R5, l5⟩ := rrounded_ok (m := m) R R4 hz (by omega) (by omega)
      have W := within_ok (M := 16777216) R5 (by omega) (by omega) (by omega)
      have es : rndS (wsum p w p.length) (sumTo (at_ w) p.length) m = rndF (wsum p w p.length) (sumTo (at_ w) p.length) m := by unfold rndS; rw [if_neg (by omega)]
      rw [es] at E5 W
      rw [if_pos (mean_fits (by omega) b1 hm.1 hm.2)] at W
      exact Ev.step (f := fun k => (merinoref01_Of.f k (sumTo (at_ w) p.length)).bind fun bt1192 => ((merinoref01_Rounded.f k b l bt1192.1 bt1192.2 m).bind fun bt1196 => ((merinoref01_Within.f k bt1196.1 bt1196.2 16777216).bind fun bt1200 => (some (bt1200.1, 0))))) (fun k => by rw [merinoref01_Mean.l0, if_neg (by omega), if_neg hz]) (Ev.bind E4 (Ev.bind E5 (Ev.bind W (Ev.now _))))
  | succ c ih =>
    intro i hc hi hs b l R
    have b1 := wsum_bd (p := p) (w := w) (n := i) hs
    obtain ⟨b2, b3⟩ := asum_bd (w := w) (n := i) (fun j hj => (hs j hj).2)
    have ll := rep_len R (m := 5) (by simp only [pw]; omega)
    by_cases c1 : okV (at_ p i) ∧ okW (at_ w i)
    · have c1' := c1
      obtain ⟨⟨v0, v1⟩, w0, w1⟩ := c1'
      obtain ⟨r1, E1, R1, l1⟩ := of_ok (x := at_ p i) (by omega) (by omega)
      obtain ⟨r2, E2, R2, l2⟩ := of_ok (x := at_ w i) (by omega) (by omega)
      obtain ⟨r3, E3, R3, l3⟩ := times_ok R1 R2 (by omega)
      obtain ⟨r4, E4, R4, l4⟩ := plus_ok R R3 (by omega) (by omega)
      obtain ⟨v, E, h⟩ := ih (i + 1) (by omega) (by omega) (fun j hj => by
        rcases Nat.lt_or_ge j i with d | d
        · exact hs j d
        · obtain rfl : j = i := by omega
          exact c1) _ _ R4
      have e2 : sumTo (at_ w) (i + 1) = sumTo (at_ w) i + at_ w i := rfl
      refine ⟨v, ?_, h⟩
      clear h ih
      refine Ev.step (f := fun k => merinoref01_Mean.j3 k p w m (sumTo (at_ w) i) (i : Int) false b l) (fun k => ?_) ?_
      · rw [merinoref01_Mean.l0, if_pos (by omega), if_pos (by omega), rd_nat, if_neg (by omega), if_neg (by omega), if_pos (by omega), rd_nat, if_neg (by omega), decide_eq_false (by omega)]
      · refine Ev.step (f := fun k => ((merinoref01_Of.f k (at_ p i)).bind fun bt1174 => (((merinoref01_Of.f k (at_ w i)).bind fun bt1179 => ((merinoref01_Times.f k bt1174.1 bt1174.2 bt1179.1 bt1179.2).bind fun bt1183 => ((merinoref01_Plus.f k b l bt1183.1 bt1183.2).bind fun bt1187 => (merinoref01_Mean.l0 k p w m (sumTo (at_ w) (i + 1)) ((i + 1 : Nat) : Int) bt1187.1 bt1187.2))))))) (fun k => ?_) (Ev.bind E1 (Ev.bind E2 (Ev.bind E3 (Ev.bind E4 E))))
        rw [merinoref01_Mean.j3, if_neg (by decide), if_pos (by omega), if_pos (by omega), rd_nat, rd_nat, wd64 (x := (i : Int) + 1) (by omega) (by omega), wd64 (x := sumTo (at_ w) i + at_ w i) (by omega) (by omega), e2]
        simp only [if_pos (show (i : Int) < (w.length : Int) by omega)]
        rfl
    · refine ⟨(0, 2), ?_, Or.inl ⟨fun h => c1 (h.1 i (by omega)), rfl⟩⟩
      have bad : Ev (fun k => merinoref01_Mean.j3 k p w m (sumTo (at_ w) i) (i : Int) true b l) (0, 2) := Ev.step (f := fun _ => some (0, 2)) (fun k => by rw [merinoref01_Mean.j3, if_pos rfl]) (Ev.now _)
      refine Ev.step (f := fun k => merinoref01_Mean.j3 k p w m (sumTo (at_ w) i) (i : Int) true b l) (fun k => ?_) bad
      clear ih
      unfold okV okW at c1
      rw [merinoref01_Mean.l0, if_pos (by omega), if_pos (by omega), rd_nat]
      by_cases d1 : at_ p i < -16777216
      · rw [if_pos d1]
      · rw [if_neg d1]
        by_cases d2 : at_ p i > 16777216
        · rw [if_pos d2]
        · rw [if_neg d2, if_pos (by omega), rd_nat]
          by_cases d3 : at_ w i < 0
          · rw [if_pos d3]
          · rw [if_neg d3, decide_eq_true (by omega)]
theorem rmean_ok (p w : List Int) (m : Int) : ∃ v, Ev (fun k => merinoref01_Mean.f k p w m) v ∧ MeanSaid p w m v := by
  unfold merinoref01_Mean.f MeanSaid
  have bad : Ev (fun k => merinoref01_Mean.j0 k p w m true) (0, 3) := Ev.step (f := fun _ => some (0, 3)) (fun k => by rw [merinoref01_Mean.j0, if_pos rfl]) (Ev.now _)
  have bad2 : Ev (fun k => merinoref01_Mean.j1 k p w m true) (0, 2) := Ev.step (f := fun _ => some (0, 2)) (fun k => by rw [merinoref01_Mean.j1, if_pos rfl]) (Ev.now _)
  by_cases h1 : p.length > 256
  · refine ⟨(0, 3), ?_, by rw [if_pos (Or.inl h1)]⟩
    simp only [if_pos (show (p.length : Int) > 256 by omega)]
    exact bad
  · simp only [if_neg (show ¬ (p.length : Int) > 256 by omega)]
    by_cases h2 : w.length > 256
    · refine ⟨(0, 3), ?_, by rw [if_pos (Or.inr h2)]⟩
      simp only [decide_eq_true (show (w.length : Int) > 256 by omega)]
      exact bad
    · simp only [decide_eq_false (show ¬ (w.length : Int) > 256 by omega)]
      simp only [if_neg (show ¬ (p.length > 256 ∨ w.length > 256) by omega)]
      by_cases h3 : p.length = w.length
      · simp only [if_pos h3]
        by_cases h4 : 0 ≤ m ∧ m ≤ 4
        · have R0 : Rep false [] (wsum p w 0) := ⟨by show Good [] ((0 : Int).natAbs : Int); exact ⟨fun x hx => (by cases hx), by simp [Norm], rfl⟩, rfl⟩
          obtain ⟨v, E, hv⟩ := rmean_l0 h4 h3 (by omega) p.length 0 rfl (by omega) (fun j hj => by omega) _ _ R0
          refine ⟨v, Ev.step (f := fun k => merinoref01_Mean.j1 k p w m false) (fun k => ?_) (Ev.step (f := fun k => merinoref01_Mean.l0 k p w m (sumTo (at_ w) 0) ((0 : Nat) : Int) false []) (fun k => ?_) E), hv⟩
          · rw [merinoref01_Mean.j0, if_neg (by decide), if_pos (by omega), mode2_ok, decide_eq_true h4]; rfl
          · rw [merinoref01_Mean.j1, if_neg (by decide)]; rfl
        · refine ⟨(0, 2), Ev.step (f := fun k => merinoref01_Mean.j1 k p w m true) (fun k => ?_) bad2, Or.inl ⟨fun h => h4 h.2, rfl⟩⟩
          rw [merinoref01_Mean.j0, if_neg (by decide), if_pos (by omega), mode2_ok, decide_eq_false h4]; rfl
      · simp only [if_neg h3]
        refine ⟨(0, 2), Ev.step (f := fun k => merinoref01_Mean.j1 k p w m true) (fun k => ?_) bad2, rfl⟩
        rw [merinoref01_Mean.j0, if_neg (by decide), if_neg (by omega)]
theorem few_yes' {l : List Int} (h : l.length ≤ 300) : merinolaw01_few.f l = some true := by unfold merinolaw01_few.f; rw [decide_eq_true (by omega)]
theorem few_no' {l : List Int} (h : ¬ l.length ≤ 300) : merinolaw01_few.f l = some false := by unfold merinolaw01_few.f; rw [decide_eq_false (by omega)]
theorem walk_NumMeans (A0 : Option Addr) (c0 : Nat) (l0 : List Int) (A1 : Option Addr) (c1 : Nat) (l1 : List Int) (m : Int) (w : World) (hr0 : Kd.C (Kd.int .i64) w A0 l0.length l0) (hc0 : l0.length ≤ c0) (hr1 : Kd.C (Kd.int .i64) w A1 l1.length l1) (hc1 : l1.length ≤ c1) :
    Calls Tryd.prog 15 #[.slice A0 l0.length c0, .slice A1 l1.length c1, .int .i64 m] w fun e w' => e = .returned (.bool true) ∧ Below w.heap.size w w' := by
  by_cases h0 : l0.length ≤ 300
  · by_cases h1 : l1.length ≤ 300
    · obtain ⟨⟨v1, v2⟩, F1, s1⟩ := nmean_ok l0 l1 m
      obtain ⟨u, F2, s2⟩ := rmean_ok l0 l1 m
      rw [← MeanSaid.one s1 s2] at F2
      obtain ⟨k1, g1⟩ := F1
      obtain ⟨k2, g2⟩ := F2
      obtain ⟨k3, g3⟩ := full_ok (l := l0) (by omega)
      obtain ⟨k4, g4⟩ := full_ok (l := l1) (by omega)
      obtain ⟨k5, g5⟩ := same_ok (l := l0) (by omega)
      obtain ⟨k6, g6⟩ := same_ok (l := l1) (by omega)
      obtain ⟨K, hK⟩ : ∃ K, K = k1 + k2 + k3 + k4 + k5 + k6 := ⟨_, rfl⟩
      exact merinolaw01_NumMeans.both K A0 c0 l0 A1 c1 l1 m _ _ v1 v2 w hr0 hc0 hr1 hc1 (few_yes' h0) (few_yes' h1) (g3 K (by omega)) (g4 K (by omega)) (g1 K (by omega)) (g2 K (by omega)) rfl (by omega) (g5 K (by omega)) rfl (by omega) (g6 K (by omega))
    · exact merinolaw01_NumMeans.long1 A0 c0 l0 A1 c1 l1 m w hr0 hc0 hr1 hc1 (few_yes' h0) (few_no' h1)
  · exact merinolaw01_NumMeans.long0 A0 c0 l0 A1 c1 l1 m w hr0 hc0 hr1 hc1 (few_no' h0)
end Go.Proofs.Num
