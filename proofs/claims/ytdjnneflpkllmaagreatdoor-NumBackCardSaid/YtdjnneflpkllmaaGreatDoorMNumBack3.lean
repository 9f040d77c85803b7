/- Part 3 of the proof of NumBack. -/
import Derived.Test.YtdjnneflpkllmaaGreatDoorMNumBack2
import Derived.Laws.RangeAny

namespace Go.Proofs.YtdjnneflpkllmaaGreatDoor.Q
open Go.RowKit Go.Proofs.YtdjnneflpkllmaaGreatDoorW.PrintWords Go.Proofs.YtdjnneflpkllmaaGreatDoorW.PrintLast Go.Proofs.YtdjnneflpkllmaaGreatDoorW.PrintMore
attribute [local go_sem] max2_int min2_int max_two min_two max_three min_three max_four min_four   -- for this text's walks alone
set_option linter.unusedVariables false
set_option linter.unusedSimpArgs false
def num_Best.j0 : Nat → Int → Int → Int → Bool → Option (Int × Int × Int)
  | 0, _, _, _, _ => none
  | k + 1, x0, x1, x2, x36 => if x36 = true then (some (0, 0, 2)) else ((num_down.f x0 x1).bind fun bt104 => ((num_around.f k bt104.2 x1 x2).bind fun bt106 => (if (wrap64 ((wrap64 ((wrap64 (bt106.2.2.1 * x1)) - (wrap64 (bt104.2 * bt106.2.2.2)))) * bt106.2.1)) < (wrap64 ((wrap64 ((wrap64 (bt104.2 * bt106.2.1)) - (wrap64 (bt106.1 * x1)))) * bt106.2.2.2)) then (some (wrap64 (bt106.2.2.1 + (wrap64 (bt104.1 * bt106.2.2.2))), bt106.2.2.2, 0)) else (if (wrap64 ((wrap64 ((wrap64 (bt106.2.2.1 * x1)) - (wrap64 (bt104.2 * bt106.2.2.2)))) * bt106.2.1)) = (wrap64 ((wrap64 ((wrap64 (bt104.2 * bt106.2.1)) - (wrap64 (bt106.1 * x1)))) * bt106.2.2.2)) then (if bt106.2.2.2 < bt106.2.1 then (some (wrap64 (bt106.2.2.1 + (wrap64 (bt104.1 * bt106.2.2.2))), bt106.2.2.2, 0)) else (some (wrap64 (bt106.1 + (wrap64 (bt104.1 * bt106.2.1))), bt106.2.1, 0))) else (some (wrap64 (bt106.1 + (wrap64 (bt104.1 * bt106.2.1))), bt106.2.1, 0))))))
def num_Best.f (k : Nat) (a0 : Int) (a1 : Int) (a2 : Int) : Option (Int × Int × Int) := if a0 < (-1099511627776) then (num_Best.j0 k a0 a1 a2 true) else (if a0 > 1099511627776 then (num_Best.j0 k a0 a1 a2 true) else (if a1 < 1 then (num_Best.j0 k a0 a1 a2 true) else (if a1 > 1099511627776 then (num_Best.j0 k a0 a1 a2 true) else (if a2 < 1 then (num_Best.j0 k a0 a1 a2 true) else (num_Best.j0 k a0 a1 a2 (decide (a2 > 1048576)))))))
set_option maxHeartbeats 8000000 in
set_option maxRecDepth 100000 in
theorem num_Best.calls (k : Nat) (a0 : Int) (a1 : Int) (a2 : Int) (r1 : Int) (r2 : Int) (r3 : Int) (w : World) (h : num_Best.f k a0 a1 a2 = some (r1, r2, r3)) :
    Calls Tryz.prog 20 #[.int .i64 a0, .int .i64 a1, .int .i64 a2] w fun e w' => e = .returned (.tuple #[.agg #[.int .i64 r1, .int .i64 r2], .int .i64 r3]) ∧ Below w.heap.size w w' := by
  have hu23 := Tryz.underlying23
  have HB := Aside0.mk (Below.refl w.heap.size w)
  have H : (if a0 < (-1099511627776) then (num_Best.j0 k a0 a1 a2 true) else (if a0 > 1099511627776 then (num_Best.j0 k a0 a1 a2 true) else (if a1 < 1 then (num_Best.j0 k a0 a1 a2 true) else (if a1 > 1099511627776 then (num_Best.j0 k a0 a1 a2 true) else (if a2 < 1 then (num_Best.j0 k a0 a1 a2 true) else (num_Best.j0 k a0 a1 a2 (decide (a2 > 1048576)))))))) = some (r1, r2, r3) := h
  clear h
  have HC4 := Aside0.mk H
  clear H
  go_enter Tryz.func20, Tryz.ntmps20
  go_upto_region 1 with (first | ((with_reducible refine gate_dst (N := 6) rfl ?_); refine box_event ?hg (N := 6) ?hd (cs := #[.int .i64 0, .int .i64 0]) (t := 23) ?hr ?_; (case hd => rfl); (case hg => rfl); (case hr => first | (go_simp; done) | (go_simp; rfl)); intro gb103 hg w5 hbox hb; have n0_ := Aside0.mk (below_step (by repeat (first | (with_reducible first | exact HB.out | apply below_alloc | apply pw_below_drewN | apply below_drew1) | exact HB.out)) hb); have n1_ := Aside0.mk (hbox); have n2_ := Aside0.mk ((by rw [hg]; exact (below_size (by repeat (first | (with_reducible first | exact HB.out | apply below_alloc | apply pw_below_drewN | apply below_drew1) | exact HB.out))) : w.heap.size ≤ gb103)); have n3_ := Aside0.mk ((by rw [hg]; exact (below_size (by repeat (first | (with_reducible first | exact HB.out | apply below_alloc | apply pw_below_drewN | apply below_drew1) | exact HB.out))) : w.heap.size ≤ gb103)); clear HB; have HB := n0_; have BK103 := n1_; have GW103 := n2_; have GE103 := n3_; clear n0_ n1_ n2_ n3_; clear hb hbox hg))
  (try simp only [Act.put, List.setIfInBounds_toArray, List.set_cons_zero, List.set_cons_succ])
  go_cut [36] (fun v36 wc => ∃ (kq : Nat) (x36_3 : Bool), v36 = .bool x36_3 ∧ Aside0 (num_Best.j0 kq a0 a1 a2 x36_3 = some (r1, r2, r3)) ∧ Aside0 (kq ≤ k) ∧ Aside0 (wc.heap[gb103]? = some (.cells #[.int .i64 0, .int .i64 0] 23 (0, 0))) ∧ Aside0 (Below w.heap.size w wc))
  case first =>
    have H := HC4.out
    clear HC4
    by_cases c6 : a0 < (-1099511627776)
    · rw [if_pos c6] at H
      have c6b0 : decide (a0 < (-1099511627776)) = true := decide_eq_true c6
      clear c6
      (first | rw [c6b0] | (simp only [i64_w, i32_w]; rw [c6b0]) | skip)
      have H' := Aside0.mk H
      clear H
      go_wp2
      go_meet
      case rel => exact ⟨_, (true), (by first | rfl | (simp; done) | (simp [*]; done)), H', ⟨by first | omega | exact Nat.le_refl _⟩, ⟨by (with_reducible repeat (first | refine blk_drewN ?_ _ | refine blk_drew ?_ | refine blk_alloc ?_ _)); exact BK103.out⟩, ⟨by repeat (first | (with_reducible first | exact HB.out | apply below_alloc | apply pw_below_drewN | apply below_drew1 | refine below_set ?_ GE103.out) | exact HB.out)⟩⟩
    · rw [if_neg c6] at H
      have c6b0 : decide (a0 < (-1099511627776)) = false := decide_eq_false c6
      clear c6
      (first | rw [c6b0] | (simp only [i64_w, i32_w]; rw [c6b0]) | skip)
      by_cases c7 : a0 > 1099511627776
      · rw [if_pos c7] at H
        have c7b0 : decide (1099511627776 < a0) = true := decide_eq_true c7
        clear c7
        have H' := Aside0.mk H
        clear H
        go_wp2
        go_meet
        case rel => exact ⟨_, (true), (by first | rfl | (simp; done) | (simp [*]; done)), H', ⟨by first | omega | exact Nat.le_refl _⟩, ⟨by (with_reducible repeat (first | refine blk_drewN ?_ _ | refine blk_drew ?_ | refine blk_alloc ?_ _)); exact BK103.out⟩, ⟨by repeat (first | (with_reducible first | exact HB.out | apply below_alloc | apply pw_below_drewN | apply below_drew1 | refine below_set ?_ GE103.out) | exact HB.out)⟩⟩
      · rw [if_neg c7] at H
        have c7b0 : decide (1099511627776 < a0) = false := decide_eq_false c7
        clear c7
        by_cases c8 : a1 < 1
        · rw [if_pos c8] at H
          have c8b0 : decide (a1 < 1) = true := decide_eq_true c8
          clear c8
          have H' := Aside0.mk H
          clear H
          go_wp2
          go_meet
          case rel => exact ⟨_, (true), (by first | rfl | (simp; done) | (simp [*]; done)), H', ⟨by first | omega | exact Nat.le_refl _⟩, ⟨by (with_reducible repeat (first | refine blk_drewN ?_ _ | refine blk_drew ?_ | refine blk_alloc ?_ _)); exact BK103.out⟩, ⟨by repeat (first | (with_reducible first | exact HB.out | apply below_alloc | apply pw_below_drewN | apply below_drew1 | refine below_set ?_ GE103.out) | exact HB.out)⟩⟩
        · rw [if_neg c8] at H
          have c8b0 : decide (a1 < 1) = false := decide_eq_false c8
          clear c8
          by_cases c9 : a1 > 1099511627776
          · rw [if_pos c9] at H
            have c9b0 : decide (1099511627776 < a1) = true := decide_eq_true c9
            clear c9
            have H' := Aside0.mk H
            clear H
            go_wp2
            go_meet
            case rel => exact ⟨_, (true), (by first | rfl | (simp; done) | (simp [*]; done)), H', ⟨by first | omega | exact Nat.le_refl _⟩, ⟨by (with_reducible repeat (first | refine blk_drewN ?_ _ | refine blk_drew ?_ | refine blk_alloc ?_ _)); exact BK103.out⟩, ⟨by repeat (first | (with_reducible first | exact HB.out | apply below_alloc | apply pw_below_drewN | apply below_drew1 | refine below_set ?_ GE103.out) | exact HB.out)⟩⟩
          · rw [if_neg c9] at H
            have c9b0 : decide (1099511627776 < a1) = false := decide_eq_false c9
            clear c9
            by_cases c10 : a2 < 1
            · rw [if_pos c10] at H
              have c10b0 : decide (a2 < 1) = true := decide_eq_true c10
              clear c10
              have H' := Aside0.mk H
              clear H
              go_wp2
              go_meet
              case rel => exact ⟨_, (true), (by first | rfl | (simp; done) | (simp [*]; done)), H', ⟨by first | omega | exact Nat.le_refl _⟩, ⟨by (with_reducible repeat (first | refine blk_drewN ?_ _ | refine blk_drew ?_ | refine blk_alloc ?_ _)); exact BK103.out⟩, ⟨by repeat (first | (with_reducible first | exact HB.out | apply below_alloc | apply pw_below_drewN | apply below_drew1 | refine below_set ?_ GE103.out) | exact HB.out)⟩⟩
            · rw [if_neg c10] at H
              have c10b0 : decide (a2 < 1) = false := decide_eq_false c10
              clear c10
              have H' := Aside0.mk H
              clear H
              go_wp2
              go_meet
              case rel => exact ⟨_, (decide (a2 > 1048576)), (by first | rfl | (simp; done) | (simp [*]; done)), H', ⟨by first | omega | exact Nat.le_refl _⟩, ⟨by (with_reducible repeat (first | refine blk_drewN ?_ _ | refine blk_drew ?_ | refine blk_alloc ?_ _)); exact BK103.out⟩, ⟨by repeat (first | (with_reducible first | exact HB.out | apply below_alloc | apply pw_below_drewN | apply below_drew1 | refine below_set ?_ GE103.out) | exact HB.out)⟩⟩
  case rest =>
    clear HC4
    try clear c1
    try clear p2
    try clear c6
    try clear c6b0
    try clear c7
    try clear c7b0
    try clear c8
    try clear c8b0
    try clear c9
    try clear c9b0
    try clear c10
    try clear c10b0
    obtain ⟨kq, x36_3, rfl, HA, HJ3, BK103, HB⟩ := hcut
    cases kq with
    | zero => exact absurd HA.out (by simp [num_Best.j0])
    | succ kj3 =>
      have H := HA.out
      clear HA
      simp only [num_Best.j0] at H
      by_cases c11 : x36_3 = true
      · subst c11
        have H1 : (some (0, 0, 2)) = some (r1, r2, r3) := by rw [if_pos rfl] at H; exact H
        clear H
        have H := H1
        clear H1
        simp only [Option.some.injEq, Prod.mk.injEq] at H
        obtain ⟨rfl, rfl, rfl⟩ := H
        have hcz12_0 : wc.cell? ⟨gb103, 0, none⟩ = some (.int .i64 0) := (blk_cell BK103.out 0).trans rfl
        have hcz12_1 : wc.cell? ⟨gb103, 1, none⟩ = some (.int .i64 0) := (blk_cell BK103.out 1).trans rfl
        have hfz12_0 := blk_frozen BK103.out 0
        have hfz12_1 := blk_frozen BK103.out 1
        go_wp2
        refine bodyPost_ret (results_ct rfl _ _ gb103 23 #[.int .i64 0, .int .i64 0] (0, 0) _ rfl (by (with_reducible repeat (first | refine blk_drewN ?_ _ | refine blk_drew ?_ | refine blk_alloc ?_ _)); refine blk_put (cs := #[.int .i64 0, .int .i64 0]) ?_ 1 _ rfl; (with_reducible repeat (first | refine blk_drewN ?_ _ | refine blk_drew ?_ | refine blk_alloc ?_ _)); refine blk_put (cs := #[.int .i64 0, .int .i64 0]) ?_ 0 _ rfl; (with_reducible repeat (first | refine blk_drewN ?_ _ | refine blk_drew ?_ | refine blk_alloc ?_ _)); exact BK103.out) Tryz.underlying23 rfl (by kernel_rfl)) rfl ?_
        exact ⟨by first | rfl | (simp [errW_none, errW_some] <;> rfl) | (simp [*, errW_none, errW_some] <;> rfl), by repeat (first | (with_reducible first | exact HB.out | apply below_alloc | apply pw_below_drewN | apply below_drew1 | refine below_set ?_ GE103.out) | exact HB.out)⟩
      · replace c11 := Bool.eq_false_iff.mpr c11
        subst c11
        have H1 : ((num_down.f a0 a1).bind fun bt104 => ((num_around.f kj3 bt104.2 a1 a2).bind fun bt106 => (if (wrap64 ((wrap64 ((wrap64 (bt106.2.2.1 * a1)) - (wrap64 (bt104.2 * bt106.2.2.2)))) * bt106.2.1)) < (wrap64 ((wrap64 ((wrap64 (bt104.2 * bt106.2.1)) - (wrap64 (bt106.1 * a1)))) * bt106.2.2.2)) then (some (wrap64 (bt106.2.2.1 + (wrap64 (bt104.1 * bt106.2.2.2))), bt106.2.2.2, 0)) else (if (wrap64 ((wrap64 ((wrap64 (bt106.2.2.1 * a1)) - (wrap64 (bt104.2 * bt106.2.2.2)))) * bt106.2.1)) = (wrap64 ((wrap64 ((wrap64 (bt104.2 * bt106.2.1)) - (wrap64 (bt106.1 * a1)))) * bt106.2.2.2)) then (if bt106.2.2.2 < bt106.2.1 then (some (wrap64 (bt106.2.2.1 + (wrap64 (bt104.1 * bt106.2.2.2))), bt106.2.2.2, 0)) else (some (wrap64 (bt106.1 + (wrap64 (bt104.1 * bt106.2.1))), bt106.2.1, 0))) else (some (wrap64 (bt106.1 + (wrap64 (bt104.1 * bt106.2.1))), bt106.2.1, 0)))))) = some (r1, r2, r3) := by rw [if_neg (show ¬ (false = true) by decide)] at H; exact H
        clear H
        have H := H1
        clear H1
        replace H := Option.bind_eq_some_iff.mp H
        obtain ⟨⟨t104, t105⟩, A130, H⟩ := H
        replace H : ((num_around.f kj3 t105 a1 a2).bind fun bt106 => (if (wrap64 ((wrap64 ((wrap64 (bt106.2.2.1 * a1)) - (wrap64 (t105 * bt106.2.2.2)))) * bt106.2.1)) < (wrap64 ((wrap64 ((wrap64 (t105 * bt106.2.1)) - (wrap64 (bt106.1 * a1)))) * bt106.2.2.2)) then (some (wrap64 (bt106.2.2.1 + (wrap64 (t104 * bt106.2.2.2))), bt106.2.2.2, 0)) else (if (wrap64 ((wrap64 ((wrap64 (bt106.2.2.1 * a1)) - (wrap64 (t105 * bt106.2.2.2)))) * bt106.2.1)) = (wrap64 ((wrap64 ((wrap64 (t105 * bt106.2.1)) - (wrap64 (bt106.1 * a1)))) * bt106.2.2.2)) then (if bt106.2.2.2 < bt106.2.1 then (some (wrap64 (bt106.2.2.1 + (wrap64 (t104 * bt106.2.2.2))), bt106.2.2.2, 0)) else (some (wrap64 (bt106.1 + (wrap64 (t104 * bt106.2.1))), bt106.2.1, 0))) else (some (wrap64 (bt106.1 + (wrap64 (t104 * bt106.2.1))), bt106.2.1, 0))))) = some (r1, r2, r3) := H
        have A13 := Aside0.mk A130
        clear A130
        replace H := Option.bind_eq_some_iff.mp H
        obtain ⟨⟨t106, t107, t108, t109⟩, A140, H⟩ := H
        replace H : (if (wrap64 ((wrap64 ((wrap64 (t108 * a1)) - (wrap64 (t105 * t109)))) * t107)) < (wrap64 ((wrap64 ((wrap64 (t105 * t107)) - (wrap64 (t106 * a1)))) * t109)) then (some (wrap64 (t108 + (wrap64 (t104 * t109))), t109, 0)) else (if (wrap64 ((wrap64 ((wrap64 (t108 * a1)) - (wrap64 (t105 * t109)))) * t107)) = (wrap64 ((wrap64 ((wrap64 (t105 * t107)) - (wrap64 (t106 * a1)))) * t109)) then (if t109 < t107 then (some (wrap64 (t108 + (wrap64 (t104 * t109))), t109, 0)) else (some (wrap64 (t106 + (wrap64 (t104 * t107))), t107, 0))) else (some (wrap64 (t106 + (wrap64 (t104 * t107))), t107, 0)))) = some (r1, r2, r3) := H
        have A14 := Aside0.mk A140
        clear A140
        by_cases c15 : (wrap64 ((wrap64 ((wrap64 (t108 * a1)) - (wrap64 (t105 * t109)))) * t107)) < (wrap64 ((wrap64 ((wrap64 (t105 * t107)) - (wrap64 (t106 * a1)))) * t109))
        · rw [if_pos c15] at H
          have c15b0 : decide ((wrap64 ((wrap64 ((wrap64 (t108 * a1)) - (wrap64 (t105 * t109)))) * t107)) < (wrap64 ((wrap64 ((wrap64 (t105 * t107)) - (wrap64 (t106 * a1)))) * t109))) = true := decide_eq_true c15
          clear c15
          simp only [Option.some.injEq, Prod.mk.injEq] at H
          obtain ⟨rfl, rfl, rfl⟩ := H
          go_upto_region 10 with (first | ((with_reducible refine gate_callee (f := 34) rfl ?_); refine goesL_ (some 41) rfl rfl Tryz.func34 (by kernel_rfl) rfl #[.int .i64 a0, .int .i64 a1] rfl (by (try simp only [List.map_toArray, List.map_cons, List.map_nil]); first | done | rfl | (simp only [List.length_drop, List.length_take]; rfl)) ?_; (with_reducible refine (num_down.calls a0 a1 t104 t105 _ A13.out).mono ?_); rintro e w' ⟨rfl, ⟨nd, rfl⟩⟩; refine ⟨_, rfl, ?_⟩; (try (rw [drewN_self wc]; generalize hq_ : World.drewN wc _ = wc; have n0_ : Aside0 (wc.heap[gb103]? = some (.cells #[.int .i64 0, .int .i64 0] 23 (0, 0))) := ⟨by rw [← hq_]; exact (by (with_reducible repeat (first | refine blk_drewN ?_ _ | refine blk_drew ?_ | refine blk_alloc ?_ _)); exact BK103.out)⟩; have n1_ : Aside0 (Below w.heap.size w wc) := ⟨by rw [← hq_]; exact (by repeat (first | (with_reducible first | exact HB.out | apply below_alloc | apply pw_below_drewN | apply below_drew1 | refine below_set ?_ GE103.out) | exact HB.out))⟩; clear BK103 HB hq_; have BK103 := n0_; have HB := n1_; clear n0_ n1_))) | ((with_reducible refine gate_callee (f := 41) rfl ?_); refine goesL_ (some 48) rfl rfl Tryz.func41 (by kernel_rfl) rfl #[.int .i64 t105, .int .i64 a1, .int .i64 a2] rfl (by (try simp only [List.map_toArray, List.map_cons, List.map_nil]); first | done | rfl | (simp only [List.length_drop, List.length_take]; rfl)) ?_; (with_reducible refine (num_around.calls kj3 t105 a1 a2 t106 t107 t108 t109 _ A14.out).mono ?_); rintro e w16 ⟨rfl, hb⟩; refine ⟨_, rfl, ?_⟩; have n0_ := Aside0.mk (blk_below (g := gb103) (o := .cells #[.int .i64 0, .int .i64 0] 23 (0, 0)) (by (with_reducible repeat (first | refine blk_drewN ?_ _ | refine blk_drew ?_ | refine blk_alloc ?_ _)); exact BK103.out) hb); have n1_ := Aside0.mk (below_step (by repeat (first | (with_reducible first | exact HB.out | apply below_alloc | apply pw_below_drewN | apply below_drew1 | refine below_set ?_ GE103.out) | exact HB.out)) hb); clear BK103; clear HB; have BK103 := n0_; have HB := n1_; clear n0_ n1_; (try clear hb); (try clear hb2); (try clear hk); (try clear hi)) | ((with_reducible refine gate_dst (N := 10) rfl ?_); refine box_event ?hg (N := 10) ?hd (cs := #[.int .i64 0, .int .i64 0]) (t := 23) ?hr ?_; (case hd => rfl); (case hg => rfl); (case hr => first | (go_simp; done) | (go_simp; rfl)); intro gb110 hg w17 hbox hb; have n0_ := Aside0.mk (blk_below (g := gb103) (o := .cells #[.int .i64 0, .int .i64 0] 23 (0, 0)) (by (with_reducible repeat (first | refine blk_drewN ?_ _ | refine blk_drew ?_ | refine blk_alloc ?_ _)); exact BK103.out) hb); have n1_ := Aside0.mk (below_step (by repeat (first | (with_reducible first | exact HB.out | apply below_alloc | apply pw_below_drewN | apply below_drew1 | refine below_set ?_ GE103.out) | exact HB.out)) hb); have n2_ := Aside0.mk (hbox); have n3_ := Aside0.mk ((by rw [hg]; exact (below_size (by repeat (first | (with_reducible first | exact HB.out | apply below_alloc | apply pw_below_drewN | apply below_drew1 | refine below_set ?_ GE103.out) | exact HB.out))) : w.heap.size ≤ gb110)); have n4_ := Aside0.mk ((by rw [hg]; exact (below_size (by repeat (first | (with_reducible first | exact HB.out | apply below_alloc | apply pw_below_drewN | apply below_drew1 | refine below_set ?_ GE103.out) | exact HB.out))) : w.heap.size ≤ gb110)); have n5_ := Aside0.mk ((by rw [hg]; exact Nat.ne_of_lt (blk_lt (g := gb103) (o := .cells #[.int .i64 0, .int .i64 0] 23 (0, 0)) (by (with_reducible repeat (first | refine blk_drewN ?_ _ | refine blk_drew ?_ | refine blk_alloc ?_ _)); exact BK103.out)) : gb103 ≠ gb110)); have n6_ := Aside0.mk ((by rw [hg]; exact Nat.ne_of_gt (blk_lt (g := gb103) (o := .cells #[.int .i64 0, .int .i64 0] 23 (0, 0)) (by (with_reducible repeat (first | refine blk_drewN ?_ _ | refine blk_drew ?_ | refine blk_alloc ?_ _)); exact BK103.out)) : gb110 ≠ gb103)); clear BK103; clear HB; have BK103 := n0_; have HB := n1_; have BK110 := n2_; have GW110 := n3_; have GE110 := n4_; have NB103_110 := n5_; have NB110_103 := n6_; clear n0_ n1_ n2_ n3_ n4_ n5_ n6_; clear hb hbox hg) | ((with_reducible refine gate_dst (N := 11) rfl ?_); refine box_event ?hg (N := 11) ?hd (cs := #[.int .i64 0, .int .i64 0]) (t := 23) ?hr ?_; (case hd => rfl); (case hg => rfl); (case hr => first | (go_simp; done) | (go_simp; rfl)); intro gb111 hg w18 hbox hb; have n0_ := Aside0.mk (blk_below (g := gb103) (o := .cells #[.int .i64 0, .int .i64 0] 23 (0, 0)) (by (with_reducible repeat (first | refine blk_drewN ?_ _ | refine blk_drew ?_ | refine blk_alloc ?_ _)); exact BK103.out) hb); have n1_ := Aside0.mk (blk_below (g := gb110) (o := .cells #[.int .i64 0, .int .i64 0] 23 (0, 0)) (by (with_reducible repeat (first | refine blk_drewN ?_ _ | refine blk_drew ?_ | refine blk_alloc ?_ _)); exact BK110.out) hb); have n2_ := Aside0.mk (below_step (by repeat (first | (with_reducible first | exact HB.out | apply below_alloc | apply pw_below_drewN | apply below_drew1 | refine below_set ?_ GE103.out | refine below_set ?_ GE110.out) | exact HB.out)) hb); have n3_ := Aside0.mk (hbox); have n4_ := Aside0.mk ((by rw [hg]; exact (below_size (by repeat (first | (with_reducible first | exact HB.out | apply below_alloc | apply pw_below_drewN | apply below_drew1 | refine below_set ?_ GE103.out | refine below_set ?_ GE110.out) | exact HB.out))) : w.heap.size ≤ gb111)); have n5_ := Aside0.mk ((by rw [hg]; exact (below_size (by repeat (first | (with_reducible first | exact HB.out | apply below_alloc | apply pw_below_drewN | apply below_drew1 | refine below_set ?_ GE103.out | refine below_set ?_ GE110.out) | exact HB.out))) : w.heap.size ≤ gb111)); have n6_ := Aside0.mk ((by rw [hg]; exact Nat.ne_of_lt (blk_lt (g := gb103) (o := .cells #[.int .i64 0, .int .i64 0] 23 (0, 0)) (by (with_reducible repeat (first | refine blk_drewN ?_ _ | refine blk_drew ?_ | refine blk_alloc ?_ _)); exact BK103.out)) : gb103 ≠ gb111)); have n7_ := Aside0.mk ((by rw [hg]; exact Nat.ne_of_gt (blk_lt (g := gb103) (o := .cells #[.int .i64 0, .int .i64 0] 23 (0, 0)) (by (with_reducible repeat (first | refine blk_drewN ?_ _ | refine blk_drew ?_ | refine blk_alloc ?_ _)); exact BK103.out)) : gb111 ≠ gb103)); have n8_ := Aside0.mk ((by rw [hg]; exact Nat.ne_of_lt (blk_lt (g := gb110) (o := .cells #[.int .i64 0, .int .i64 0] 23 (0, 0)) (by (with_reducible repeat (first | refine blk_drewN ?_ _ | refine blk_drew ?_ | refine blk_alloc ?_ _)); exact BK110.out)) : gb110 ≠ gb111)); have n9_ := Aside0.mk ((by rw [hg]; exact Nat.ne_of_gt (blk_lt (g := gb110) (o := .cells #[.int .i64 0, .int .i64 0] 23 (0, 0)) (by (with_reducible repeat (first | refine blk_drewN ?_ _ | refine blk_drew ?_ | refine blk_alloc ?_ _)); exact BK110.out)) : gb111 ≠ gb110)); clear BK103; clear BK110; clear HB; have BK103 := n0_; have BK110 := n1_; have HB := n2_; have BK111 := n3_; have GW111 := n4_; have GE111 := n5_; have NB103_111 := n6_; have NB111_103 := n7_; have NB110_111 := n8_; have NB111_110 := n9_; clear n0_ n1_ n2_ n3_ n4_ n5_ n6_ n7_ n8_ n9_; clear hb hbox hg; have hnb19 := NB110_103.out; have hnc19 := NB103_110.out; have hnb20 := NB110_111.out; have hnc20 := NB111_110.out; have hcz21_0 : w18.cell? ⟨gb110, 0, none⟩ = some (.int .i64 0) := (blk_cell BK110.out 0).trans rfl; have hcz21_1 : w18.cell? ⟨gb110, 1, none⟩ = some (.int .i64 0) := (blk_cell BK110.out 1).trans rfl; have hfz21_0 := blk_frozen BK110.out 0; have hfz21_1 := blk_frozen BK110.out 1; have hnb22 := NB111_103.out; have hnc22 := NB103_111.out; have hcz23_0 : w18.cell? ⟨gb111, 0, none⟩ = some (.int .i64 0) := (blk_cell BK111.out 0).trans rfl; have hcz23_1 : w18.cell? ⟨gb111, 1, none⟩ = some (.int .i64 0) := (blk_cell BK111.out 1).trans rfl; have hfz23_0 := blk_frozen BK111.out 0; have hfz23_1 := blk_frozen BK111.out 1) | ((with_reducible refine gate_dst (N := 14) rfl ?_); refine box_event ?hg (N := 14) ?hd (cs := #[.int .i64 0, .int .i64 0]) (t := 23) ?hr ?_; (case hd => rfl); (case hg => rfl); (case hr => first | (go_simp; done) | (go_simp; rfl)); intro gb112 hg w24 hbox hb; have n0_ := Aside0.mk (blk_below (g := gb103) (o := .cells #[.int .i64 0, .int .i64 0] 23 (0, 0)) (by (with_reducible repeat (first | refine blk_drewN ?_ _ | refine blk_drew ?_ | refine blk_alloc ?_ _)); refine blk_far ?_ NB103_111.out _; (with_reducible repeat (first | refine blk_drewN ?_ _ | refine blk_drew ?_ | refine blk_alloc ?_ _)); refine blk_far ?_ NB103_111.out _; (with_reducible repeat (first | refine blk_drewN ?_ _ | refine blk_drew ?_ | refine blk_alloc ?_ _)); refine blk_far ?_ NB103_110.out _; (with_reducible repeat (first | refine blk_drewN ?_ _ | refine blk_drew ?_ | refine blk_alloc ?_ _)); refine blk_far ?_ NB103_110.out _; (with_reducible repeat (first | refine blk_drewN ?_ _ | refine blk_drew ?_ | refine blk_alloc ?_ _)); exact BK103.out) hb); have n1_ := Aside0.mk (blk_below (g := gb110) (o := .cells #[.int .i64 t106, .int .i64 t107] 23 (0, 0)) (by (with_reducible repeat (first | refine blk_drewN ?_ _ | refine blk_drew ?_ | refine blk_alloc ?_ _)); refine blk_far ?_ NB110_111.out _; (with_reducible repeat (first | refine blk_drewN ?_ _ | refine blk_drew ?_ | refine blk_alloc ?_ _)); refine blk_far ?_ NB110_111.out _; (with_reducible repeat (first | refine blk_drewN ?_ _ | refine blk_drew ?_ | refine blk_alloc ?_ _)); refine blk_put (cs := #[.int .i64 t106, .int .i64 0]) ?_ 1 _ rfl; (with_reducible repeat (first | refine blk_drewN ?_ _ | refine blk_drew ?_ | refine blk_alloc ?_ _)); refine blk_put (cs := #[.int .i64 0, .int .i64 0]) ?_ 0 _ rfl; (with_reducible repeat (first | refine blk_drewN ?_ _ | refine blk_drew ?_ | refine blk_alloc ?_ _)); exact BK110.out) hb); have n2_ := Aside0.mk (blk_below (g := gb111) (o := .cells #[.int .i64 t108, .int .i64 t109] 23 (0, 0)) (by (with_reducible repeat (first | refine blk_drewN ?_ _ | refine blk_drew ?_ | refine blk_alloc ?_ _)); refine blk_put (cs := #[.int .i64 t108, .int .i64 0]) ?_ 1 _ rfl; (with_reducible repeat (first | refine blk_drewN ?_ _ | refine blk_drew ?_ | refine blk_alloc ?_ _)); refine blk_put (cs := #[.int .i64 0, .int .i64 0]) ?_ 0 _ rfl; (with_reducible repeat (first | refine blk_drewN ?_ _ | refine blk_drew ?_ | refine blk_alloc ?_ _)); refine blk_far ?_ NB111_110.out _; (with_reducible repeat (first | refine blk_drewN ?_ _ | refine blk_drew ?_ | refine blk_alloc ?_ _)); refine blk_far ?_ NB111_110.out _; (with_reducible repeat (first | refine blk_drewN ?_ _ | refine blk_drew ?_ | refine blk_alloc ?_ _)); exact BK111.out) hb); have n3_ := Aside0.mk (below_step (by repeat (first | (with_reducible first | exact HB.out | apply below_alloc | apply pw_below_drewN | apply below_drew1 | refine below_set ?_ GE103.out | refine below_set ?_ GE110.out | refine below_set ?_ GE111.out) | exact HB.out)) hb); have n4_ := Aside0.mk (hbox); have n5_ := Aside0.mk ((by rw [hg]; exact (below_size (by repeat (first | (with_reducible first | exact HB.out | apply below_alloc | apply pw_below_drewN | apply below_drew1 | refine below_set ?_ GE103.out | refine below_set ?_ GE110.out | refine below_set ?_ GE111.out) | exact HB.out))) : w.heap.size ≤ gb112)); have n6_ := Aside0.mk ((by rw [hg]; exact (below_size (by repeat (first | (with_reducible first | exact HB.out | apply below_alloc | apply pw_below_drewN | apply below_drew1 | refine below_set ?_ GE103.out | refine below_set ?_ GE110.out | refine below_set ?_ GE111.out) | exact HB.out))) : w.heap.size ≤ gb112)); have n7_ := Aside0.mk ((by rw [hg]; exact Nat.ne_of_lt (blk_lt (g := gb103) (o := .cells #[.int .i64 0, .int .i64 0] 23 (0, 0)) (by (with_reducible repeat (first | refine blk_drewN ?_ _ | refine blk_drew ?_ | refine blk_alloc ?_ _)); refine blk_far ?_ NB103_111.out _; (with_reducible repeat (first | refine blk_drewN ?_ _ | refine blk_drew ?_ | refine blk_alloc ?_ _)); refine blk_far ?_ NB103_111.out _; (with_reducible repeat (first | refine blk_drewN ?_ _ | refine blk_drew ?_ | refine blk_alloc ?_ _)); refine blk_far ?_ NB103_110.out _; (with_reducible repeat (first | refine blk_drewN ?_ _ | refine blk_drew ?_ | refine blk_alloc ?_ _)); refine blk_far ?_ NB103_110.out _; (with_reducible repeat (first | refine blk_drewN ?_ _ | refine blk_drew ?_ | refine blk_alloc ?_ _)); exact BK103.out)) : gb103 ≠ gb112)); have n8_ := Aside0.mk ((by rw [hg]; exact Nat.ne_of_gt (blk_lt (g := gb103) (o := .cells #[.int .i64 0, .int .i64 0] 23 (0, 0)) (by (with_reducible repeat (first | refine blk_drewN ?_ _ | refine blk_drew ?_ | refine blk_alloc ?_ _)); refine blk_far ?_ NB103_111.out _; (with_reducible repeat (first | refine blk_drewN ?_ _ | refine blk_drew ?_ | refine blk_alloc ?_ _)); refine blk_far ?_ NB103_111.out _; (with_reducible repeat (first | refine blk_drewN ?_ _ | refine blk_drew ?_ | refine blk_alloc ?_ _)); refine blk_far ?_ NB103_110.out _; (with_reducible repeat (first | refine blk_drewN ?_ _ | refine blk_drew ?_ | refine blk_alloc ?_ _)); refine blk_far ?_ NB103_110.out _; (with_reducible repeat (first | refine blk_drewN ?_ _ | refine blk_drew ?_ | refine blk_alloc ?_ _)); exact BK103.out)) : gb112 ≠ gb103)); have n9_ := Aside0.mk ((by rw [hg]; exact Nat.ne_of_lt (blk_lt (g := gb110) (o := .cells #[.int .i64 t106, .int .i64 t107] 23 (0, 0)) (by (with_reducible repeat (first | refine blk_drewN ?_ _ | refine blk_drew ?_ | refine blk_alloc ?_ _)); refine blk_far ?_ NB110_111.out _; (with_reducible repeat (first | refine blk_drewN ?_ _ | refine blk_drew ?_ | refine blk_alloc ?_ _)); refine blk_far ?_ NB110_111.out _; (with_reducible repeat (first | refine blk_drewN ?_ _ | refine blk_drew ?_ | refine blk_alloc ?_ _)); refine blk_put (cs := #[.int .i64 t106, .int .i64 0]) ?_ 1 _ rfl; (with_reducible repeat (first | refine blk_drewN ?_ _ | refine blk_drew ?_ | refine blk_alloc ?_ _)); refine blk_put (cs := #[.int .i64 0, .int .i64 0]) ?_ 0 _ rfl; (with_reducible repeat (first | refine blk_drewN ?_ _ | refine blk_drew ?_ | refine blk_alloc ?_ _)); exact BK110.out)) : gb110 ≠ gb112)); have n10_ := Aside0.mk ((by rw [hg]; exact Nat.ne_of_gt (blk_lt (g := gb110) (o := .cells #[.int .i64 t106, .int .i64 t107] 23 (0, 0)) (by (with_reducible repeat (first | refine blk_drewN ?_ _ | refine blk_drew ?_ | refine blk_alloc ?_ _)); refine blk_far ?_ NB110_111.out _; (with_reducible repeat (first | refine blk_drewN ?_ _ | refine blk_drew ?_ | refine blk_alloc ?_ _)); refine blk_far ?_ NB110_111.out _; (with_reducible repeat (first | refine blk_drewN ?_ _ | refine blk_drew ?_ | refine blk_alloc ?_ _)); refine blk_put (cs := #[.int .i64 t106, .int .i64 0]) ?_ 1 _ rfl; (with_reducible repeat (first | refine blk_drewN ?_ _ | refine blk_drew ?_ | refine blk_alloc ?_ _)); refine blk_put (cs := #[.int .i64 0, .int .i64 0]) ?_ 0 _ rfl; (with_reducible repeat (first | refine blk_drewN ?_ _ | refine blk_drew ?_ | refine blk_alloc ?_ _)); exact BK110.out)) : gb112 ≠ gb110)); have n11_ := Aside0.mk ((by rw [hg]; exact Nat.ne_of_lt (blk_lt (g := gb111) (o := .cells #[.int .i64 t108, .int .i64 t109] 23 (0, 0)) (by (with_reducible repeat (first | refine blk_drewN ?_ _ | refine blk_drew ?_ | refine blk_alloc ?_ _)); refine blk_put (cs := #[.int .i64 t108, .int .i64 0]) ?_ 1 _ rfl; (with_reducible repeat (first | refine blk_drewN ?_ _ | refine blk_drew ?_ | refine blk_alloc ?_ _)); refine blk_put (cs := #[.int .i64 0, .int .i64 0]) ?_ 0 _ rfl; (with_reducible repeat (first | refine blk_drewN ?_ _ | refine blk_drew ?_ | refine blk_alloc ?_ _)); refine blk_far ?_ NB111_110.out _; (with_reducible repeat (first | refine blk_drewN ?_ _ | refine blk_drew ?_ | refine blk_alloc ?_ _)); refine blk_far ?_ NB111_110.out _; (with_reducible repeat (first | refine blk_drewN ?_ _ | refine blk_drew ?_ | refine blk_alloc ?_ _)); exact BK111.out)) : gb111 ≠ gb112)); have n12_ := Aside0.mk ((by rw [hg]; exact Nat.ne_of_gt (blk_lt (g := gb111) (o := .cells #[.int .i64 t108, .int .i64 t109] 23 (0, 0)) (by (with_reducible repeat (first | refine blk_drewN ?_ _ | refine blk_drew ?_ | refine blk_alloc ?_ _)); refine blk_put (cs := #[.int .i64 t108, .int .i64 0]) ?_ 1 _ rfl; (with_reducible repeat (first | refine blk_drewN ?_ _ | refine blk_drew ?_ | refine blk_alloc ?_ _)); refine blk_put (cs := #[.int .i64 0, .int .i64 0]) ?_ 0 _ rfl; (with_reducible repeat (first | refine blk_drewN ?_ _ | refine blk_drew ?_ | refine blk_alloc ?_ _)); refine blk_far ?_ NB111_110.out _; (with_reducible repeat (first | refine blk_drewN ?_ _ | refine blk_drew ?_ | refine blk_alloc ?_ _)); refine blk_far ?_ NB111_110.out _; (with_reducible repeat (first | refine blk_drewN ?_ _ | refine blk_drew ?_ | refine blk_alloc ?_ _)); exact BK111.out)) : gb112 ≠ gb111)); clear BK103; clear BK110; clear BK111; clear HB; have BK103 := n0_; have BK110 := n1_; have BK111 := n2_; have HB := n3_; have BK112 := n4_; have GW112 := n5_; have GE112 := n6_; have NB103_112 := n7_; have NB112_103 := n8_; have NB110_112 := n9_; have NB112_110 := n10_; have NB111_112 := n11_; have NB112_111 := n12_; clear n0_ n1_ n2_ n3_ n4_ n5_ n6_ n7_ n8_ n9_ n10_ n11_ n12_; clear hb hbox hg; have hnb25 := NB112_103.out; have hnc25 := NB103_112.out; have hnb26 := NB112_110.out; have hnc26 := NB110_112.out; have hnb27 := NB112_111.out; have hnc27 := NB111_112.out; have hcz28_0 : w24.cell? ⟨gb112, 0, none⟩ = some (.int .i64 0) := (blk_cell BK112.out 0).trans rfl; have hcz28_1 : w24.cell? ⟨gb112, 1, none⟩ = some (.int .i64 0) := (blk_cell BK112.out 1).trans rfl; have hfz28_0 := blk_frozen BK112.out 0; have hfz28_1 := blk_frozen BK112.out 1; have hcz29_0 : w24.cell? ⟨gb111, 0, none⟩ = some (.int .i64 t108) := (blk_cell BK111.out 0).trans rfl; have hcz29_1 : w24.cell? ⟨gb111, 1, none⟩ = some (.int .i64 t109) := (blk_cell BK111.out 1).trans rfl; have hfz29_0 := blk_frozen BK111.out 0; have hfz29_1 := blk_frozen BK111.out 1; have hcz30_0 : w24.cell? ⟨gb103, 0, none⟩ = some (.int .i64 0) := (blk_cell BK103.out 0).trans rfl; have hcz30_1 : w24.cell? ⟨gb103, 1, none⟩ = some (.int .i64 0) := (blk_cell BK103.out 1).trans rfl; have hfz30_0 := blk_frozen BK103.out 0; have hfz30_1 := blk_frozen BK103.out 1))
          have hX_ : ((((w24.setCell ⟨gb112, 0, none⟩ (.int .i64 t106)).setCell ⟨gb112, 1, none⟩ (.int .i64 t107)).setCell ⟨gb112, 0, none⟩ (.int .i64 t108)).setCell ⟨gb112, 1, none⟩ (.int .i64 t109)).heap[gb112]? = some (.cells #[.int .i64 t108, .int .i64 t109] 23 (0, 0)) := blk_put (cs := #[.int .i64 t108, .int .i64 t107]) (blk_put (cs := #[.int .i64 t106, .int .i64 t107]) (blk_put (cs := #[.int .i64 t106, .int .i64 0]) (blk_put (cs := #[.int .i64 0, .int .i64 0]) BK112.out 0 _ rfl) 1 _ rfl) 0 _ rfl) 1 _ rfl
          have hX0_ := (blk_cell hX_ 0).trans rfl
          have hX1_ := (blk_cell hX_ 1).trans rfl
          have hXf0_ := blk_frozen hX_ 0
          have hXf1_ := blk_frozen hX_ 1
          clear hX_
          go_wp2
          refine bodyPost_ret (results_ct rfl _ _ gb103 23 #[.int .i64 (wrap64 (t108 + (wrap64 (t104 * t109)))), .int .i64 t109] (0, 0) _ rfl (by (with_reducible repeat (first | refine blk_drewN ?_ _ | refine blk_drew ?_ | refine blk_alloc ?_ _)); refine blk_put (cs := #[.int .i64 (wrap64 (t108 + (wrap64 (t104 * t109)))), .int .i64 0]) ?_ 1 _ rfl; (with_reducible repeat (first | refine blk_drewN ?_ _ | refine blk_drew ?_ | refine blk_alloc ?_ _)); refine blk_put (cs := #[.int .i64 0, .int .i64 0]) ?_ 0 _ rfl; (with_reducible repeat (first | refine blk_drewN ?_ _ | refine blk_drew ?_ | refine blk_alloc ?_ _)); refine blk_far ?_ NB103_112.out _; (with_reducible repeat (first | refine blk_drewN ?_ _ | refine blk_drew ?_ | refine blk_alloc ?_ _)); refine blk_far ?_ NB103_112.out _; (with_reducible repeat (first | refine blk_drewN ?_ _ | refine blk_drew ?_ | refine blk_alloc ?_ _)); refine blk_far ?_ NB103_112.out _; (with_reducible repeat (first | refine blk_drewN ?_ _ | refine blk_drew ?_ | refine blk_alloc ?_ _)); refine blk_far ?_ NB103_112.out _; (with_reducible repeat (first | refine blk_drewN ?_ _ | refine blk_drew ?_ | refine blk_alloc ?_ _)); refine blk_far ?_ NB103_112.out _; (with_reducible repeat (first | refine blk_drewN ?_ _ | refine blk_drew ?_ | refine blk_alloc ?_ _)); exact BK103.out) Tryz.underlying23 rfl (by kernel_rfl)) rfl ?_
          exact ⟨by first | rfl | (simp [errW_none, errW_some] <;> rfl) | (simp [*, errW_none, errW_some] <;> rfl), by repeat (first | (with_reducible first | exact HB.out | apply below_alloc | apply pw_below_drewN | apply below_drew1 | refine below_set ?_ GE103.out | refine below_set ?_ GE110.out | refine below_set ?_ GE111.out | refine below_set ?_ GE112.out) | exact HB.out)⟩
        · rw [if_neg c15] at H
          have c15b0 : decide ((wrap64 ((wrap64 ((wrap64 (t108 * a1)) - (wrap64 (t105 * t109)))) * t107)) < (wrap64 ((wrap64 ((wrap64 (t105 * t107)) - (wrap64 (t106 * a1)))) * t109))) = false := decide_eq_false c15
          clear c15
          by_cases c31 : (wrap64 ((wrap64 ((wrap64 (t108 * a1)) - (wrap64 (t105 * t109)))) * t107)) = (wrap64 ((wrap64 ((wrap64 (t105 * t107)) - (wrap64 (t106 * a1)))) * t109))
          · rw [if_pos c31] at H
            have c31b0 : ((wrap64 ((wrap64 ((wrap64 (t108 * a1)) - (wrap64 (t105 * t109)))) * t107)) == (wrap64 ((wrap64 ((wrap64 (t105 * t107)) - (wrap64 (t106 * a1)))) * t109))) = true := beq_iff_eq.mpr c31
            have c31b1 : ((wrap64 ((wrap64 ((wrap64 (t108 * a1)) - (wrap64 (t105 * t109)))) * t107)) != (wrap64 ((wrap64 ((wrap64 (t105 * t107)) - (wrap64 (t106 * a1)))) * t109))) = false := bne_eq_false_iff_eq.mpr c31
            clear c31
            by_cases c32 : t109 < t107
            · rw [if_pos c32] at H
              have c32b0 : decide (t109 < t107) = true := decide_eq_true c32
              clear c32
              simp only [Option.some.injEq, Prod.mk.injEq] at H
              obtain ⟨rfl, rfl, rfl⟩ := H
              go_upto_region 10 with (first | ((with_reducible refine gate_callee (f := 34) rfl ?_); refine goesL_ (some 41) rfl rfl Tryz.func34 (by kernel_rfl) rfl #[.int .i64 a0, .int .i64 a1] rfl (by (try simp only [List.map_toArray, List.map_cons, List.map_nil]); first | done | rfl | (simp only [List.length_drop, List.length_take]; rfl)) ?_; (with_reducible refine (num_down.calls a0 a1 t104 t105 _ A13.out).mono ?_); rintro e w' ⟨rfl, ⟨nd, rfl⟩⟩; refine ⟨_, rfl, ?_⟩; (try (rw [drewN_self wc]; generalize hq_ : World.drewN wc _ = wc; have n0_ : Aside0 (wc.heap[gb103]? = some (.cells #[.int .i64 0, .int .i64 0] 23 (0, 0))) := ⟨by rw [← hq_]; exact (by (with_reducible repeat (first | refine blk_drewN ?_ _ | refine blk_drew ?_ | refine blk_alloc ?_ _)); exact BK103.out)⟩; have n1_ : Aside0 (Below w.heap.size w wc) := ⟨by rw [← hq_]; exact (by repeat (first | (with_reducible first | exact HB.out | apply below_alloc | apply pw_below_drewN | apply below_drew1 | refine below_set ?_ GE103.out) | exact HB.out))⟩; clear BK103 HB hq_; have BK103 := n0_; have HB := n1_; clear n0_ n1_))) | ((with_reducible refine gate_callee (f := 41) rfl ?_); refine goesL_ (some 48) rfl rfl Tryz.func41 (by kernel_rfl) rfl #[.int .i64 t105, .int .i64 a1, .int .i64 a2] rfl (by (try simp only [List.map_toArray, List.map_cons, List.map_nil]); first | done | rfl | (simp only [List.length_drop, List.length_take]; rfl)) ?_; (with_reducible refine (num_around.calls kj3 t105 a1 a2 t106 t107 t108 t109 _ A14.out).mono ?_); rintro e w33 ⟨rfl, hb⟩; refine ⟨_, rfl, ?_⟩; have n0_ := Aside0.mk (blk_below (g := gb103) (o := .cells #[.int .i64 0, .int .i64 0] 23 (0, 0)) (by (with_reducible repeat (first | refine blk_drewN ?_ _ | refine blk_drew ?_ | refine blk_alloc ?_ _)); exact BK103.out) hb); have n1_ := Aside0.mk (below_step (by repeat (first | (with_reducible first | exact HB.out | apply below_alloc | apply pw_below_drewN | apply below_drew1 | refine below_set ?_ GE103.out) | exact HB.out)) hb); clear BK103; clear HB; have BK103 := n0_; have HB := n1_; clear n0_ n1_; (try clear hb); (try clear hb2); (try clear hk); (try clear hi)) | ((with_reducible refine gate_dst (N := 10) rfl ?_); refine box_event ?hg (N := 10) ?hd (cs := #[.int .i64 0, .int .i64 0]) (t := 23) ?hr ?_; (case hd => rfl); (case hg => rfl); (case hr => first | (go_simp; done) | (go_simp; rfl)); intro gb110 hg w34 hbox hb; have n0_ := Aside0.mk (blk_below (g := gb103) (o := .cells #[.int .i64 0, .int .i64 0] 23 (0, 0)) (by (with_reducible repeat (first | refine blk_drewN ?_ _ | refine blk_drew ?_ | refine blk_alloc ?_ _)); exact BK103.out) hb); have n1_ := Aside0.mk (below_step (by repeat (first | (with_reducible first | exact HB.out | apply below_alloc | apply pw_below_drewN | apply below_drew1 | refine below_set ?_ GE103.out) | exact HB.out)) hb); have n2_ := Aside0.mk (hbox); have n3_ := Aside0.mk ((by rw [hg]; exact (below_size (by repeat (first | (with_reducible first | exact HB.out | apply below_alloc | apply pw_below_drewN | apply below_drew1 | refine below_set ?_ GE103.out) | exact HB.out))) : w.heap.size ≤ gb110)); have n4_ := Aside0.mk ((by rw [hg]; exact (below_size (by repeat (first | (with_reducible first | exact HB.out | apply below_alloc | apply pw_below_drewN | apply below_drew1 | refine below_set ?_ GE103.out) | exact HB.out))) : w.heap.size ≤ gb110)); have n5_ := Aside0.mk ((by rw [hg]; exact Nat.ne_of_lt (blk_lt (g := gb103) (o := .cells #[.int .i64 0, .int .i64 0] 23 (0, 0)) (by (with_reducible repeat (first | refine blk_drewN ?_ _ | refine blk_drew ?_ | refine blk_alloc ?_ _)); exact BK103.out)) : gb103 ≠ gb110)); have n6_ := Aside0.mk ((by rw [hg]; exact Nat.ne_of_gt (blk_lt (g := gb103) (o := .cells #[.int .i64 0, .int .i64 0] 23 (0, 0)) (by (with_reducible repeat (first | refine blk_drewN ?_ _ | refine blk_drew ?_ | refine blk_alloc ?_ _)); exact BK103.out)) : gb110 ≠ gb103)); clear BK103; clear HB; have BK103 := n0_; have HB := n1_; have BK110 := n2_; have GW110 := n3_; have GE110 := n4_; have NB103_110 := n5_; have NB110_103 := n6_; clear n0_ n1_ n2_ n3_ n4_ n5_ n6_; clear hb hbox hg) | ((with_reducible refine gate_dst (N := 11) rfl ?_); refine box_event ?hg (N := 11) ?hd (cs := #[.int .i64 0, .int .i64 0]) (t := 23) ?hr ?_; (case hd => rfl); (case hg => rfl); (case hr => first | (go_simp; done) | (go_simp; rfl)); intro gb111 hg w35 hbox hb; have n0_ := Aside0.mk (blk_below (g := gb103) (o := .cells #[.int .i64 0, .int .i64 0] 23 (0, 0)) (by (with_reducible repeat (first | refine blk_drewN ?_ _ | refine blk_drew ?_ | refine blk_alloc ?_ _)); exact BK103.out) hb); have n1_ := Aside0.mk (blk_below (g := gb110) (o := .cells #[.int .i64 0, .int .i64 0] 23 (0, 0)) (by (with_reducible repeat (first | refine blk_drewN ?_ _ | refine blk_drew ?_ | refine blk_alloc ?_ _)); exact BK110.out) hb); have n2_ := Aside0.mk (below_step (by repeat (first | (with_reducible first | exact HB.out | apply below_alloc | apply pw_below_drewN | apply below_drew1 | refine below_set ?_ GE103.out | refine below_set ?_ GE110.out) | exact HB.out)) hb); have n3_ := Aside0.mk (hbox); have n4_ := Aside0.mk ((by rw [hg]; exact (below_size (by repeat (first | (with_reducible first | exact HB.out | apply below_alloc | apply pw_below_drewN | apply below_drew1 | refine below_set ?_ GE103.out | refine below_set ?_ GE110.out) | exact HB.out))) : w.heap.size ≤ gb111)); have n5_ := Aside0.mk ((by rw [hg]; exact (below_size (by repeat (first | (with_reducible first | exact HB.out | apply below_alloc | apply pw_below_drewN | apply below_drew1 | refine below_set ?_ GE103.out | refine below_set ?_ GE110.out) | exact HB.out))) : w.heap.size ≤ gb111)); have n6_ := Aside0.mk ((by rw [hg]; exact Nat.ne_of_lt (blk_lt (g := gb103) (o := .cells #[.int .i64 0, .int .i64 0] 23 (0, 0)) (by (with_reducible repeat (first | refine blk_drewN ?_ _ | refine blk_drew ?_ | refine blk_alloc ?_ _)); exact BK103.out)) : gb103 ≠ gb111)); have n7_ := Aside0.mk ((by rw [hg]; exact Nat.ne_of_gt (blk_lt (g := gb103) (o := .cells #[.int .i64 0, .int .i64 0] 23 (0, 0)) (by (with_reducible repeat (first | refine blk_drewN ?_ _ | refine blk_drew ?_ | refine blk_alloc ?_ _)); exact BK103.out)) : gb111 ≠ gb103)); have n8_ := Aside0.mk ((by rw [hg]; exact Nat.ne_of_lt (blk_lt (g := gb110) (o := .cells #[.int .i64 0, .int .i64 0] 23 (0, 0)) (by (with_reducible repeat (first | refine blk_drewN ?_ _ | refine blk_drew ?_ | refine blk_alloc ?_ _)); exact BK110.out)) : gb110 ≠ gb111)); have n9_ := Aside0.mk ((by rw [hg]; exact Nat.ne_of_gt (blk_lt (g := gb110) (o := .cells #[.int .i64 0, .int .i64 0] 23 (0, 0)) (by (with_reducible repeat (first | refine blk_drewN ?_ _ | refine blk_drew ?_ | refine blk_alloc ?_ _)); exact BK110.out)) : gb111 ≠ gb110)); clear BK103; clear BK110; clear HB; have BK103 := n0_; have BK110 := n1_; have HB := n2_; have BK111 := n3_; have GW111 := n4_; have GE111 := n5_; have NB103_111 := n6_; have NB111_103 := n7_; have NB110_111 := n8_; have NB111_110 := n9_; clear n0_ n1_ n2_ n3_ n4_ n5_ n6_ n7_ n8_ n9_; clear hb hbox hg; have hnb36 := NB110_103.out; have hnc36 := NB103_110.out; have hnb37 := NB110_111.out; have hnc37 := NB111_110.out; have hcz38_0 : w35.cell? ⟨gb110, 0, none⟩ = some (.int .i64 0) := (blk_cell BK110.out 0).trans rfl; have hcz38_1 : w35.cell? ⟨gb110, 1, none⟩ = some (.int .i64 0) := (blk_cell BK110.out 1).trans rfl; have hfz38_0 := blk_frozen BK110.out 0; have hfz38_1 := blk_frozen BK110.out 1; have hnb39 := NB111_103.out; have hnc39 := NB103_111.out; have hcz40_0 : w35.cell? ⟨gb111, 0, none⟩ = some (.int .i64 0) := (blk_cell BK111.out 0).trans rfl; have hcz40_1 : w35.cell? ⟨gb111, 1, none⟩ = some (.int .i64 0) := (blk_cell BK111.out 1).trans rfl; have hfz40_0 := blk_frozen BK111.out 0; have hfz40_1 := blk_frozen BK111.out 1) | ((with_reducible refine gate_dst (N := 14) rfl ?_); refine box_event ?hg (N := 14) ?hd (cs := #[.int .i64 0, .int .i64 0]) (t := 23) ?hr ?_; (case hd => rfl); (case hg => rfl); (case hr => first | (go_simp; done) | (go_simp; rfl)); intro gb112 hg w41 hbox hb; have n0_ := Aside0.mk (blk_below (g := gb103) (o := .cells #[.int .i64 0, .int .i64 0] 23 (0, 0)) (by (with_reducible repeat (first | refine blk_drewN ?_ _ | refine blk_drew ?_ | refine blk_alloc ?_ _)); refine blk_far ?_ NB103_111.out _; (with_reducible repeat (first | refine blk_drewN ?_ _ | refine blk_drew ?_ | refine blk_alloc ?_ _)); refine blk_far ?_ NB103_111.out _; (with_reducible repeat (first | refine blk_drewN ?_ _ | refine blk_drew ?_ | refine blk_alloc ?_ _)); refine blk_far ?_ NB103_110.out _; (with_reducible repeat (first | refine blk_drewN ?_ _ | refine blk_drew ?_ | refine blk_alloc ?_ _)); refine blk_far ?_ NB103_110.out _; (with_reducible repeat (first | refine blk_drewN ?_ _ | refine blk_drew ?_ | refine blk_alloc ?_ _)); exact BK103.out) hb); have n1_ := Aside0.mk (blk_below (g := gb110) (o := .cells #[.int .i64 t106, .int .i64 t107] 23 (0, 0)) (by (with_reducible repeat (first | refine blk_drewN ?_ _ | refine blk_drew ?_ | refine blk_alloc ?_ _)); refine blk_far ?_ NB110_111.out _; (with_reducible repeat (first | refine blk_drewN ?_ _ | refine blk_drew ?_ | refine blk_alloc ?_ _)); refine blk_far ?_ NB110_111.out _; (with_reducible repeat (first | refine blk_drewN ?_ _ | refine blk_drew ?_ | refine blk_alloc ?_ _)); refine blk_put (cs := #[.int .i64 t106, .int .i64 0]) ?_ 1 _ rfl; (with_reducible repeat (first | refine blk_drewN ?_ _ | refine blk_drew ?_ | refine blk_alloc ?_ _)); refine blk_put (cs := #[.int .i64 0, .int .i64 0]) ?_ 0 _ rfl; (with_reducible repeat (first | refine blk_drewN ?_ _ | refine blk_drew ?_ | refine blk_alloc ?_ _)); exact BK110.out) hb); have n2_ := Aside0.mk (blk_below (g := gb111) (o := .cells #[.int .i64 t108, .int .i64 t109] 23 (0, 0)) (by (with_reducible repeat (first | refine blk_drewN ?_ _ | refine blk_drew ?_ | refine blk_alloc ?_ _)); refine blk_put (cs := #[.int .i64 t108, .int .i64 0]) ?_ 1 _ rfl; (with_reducible repeat (first | refine blk_drewN ?_ _ | refine blk_drew ?_ | refine blk_alloc ?_ _)); refine blk_put (cs := #[.int .i64 0, .int .i64 0]) ?_ 0 _ rfl; (with_reducible repeat (first | refine blk_drewN ?_ _ | refine blk_drew ?_ | refine blk_alloc ?_ _)); refine blk_far ?_ NB111_110.out _; (with_reducible repeat (first | refine blk_drewN ?_ _ | refine blk_drew ?_ | refine blk_alloc ?_ _)); refine blk_far ?_ NB111_110.out _; (with_reducible repeat (first | refine blk_drewN ?_ _ | refine blk_drew ?_ | refine blk_alloc ?_ _)); exact BK111.out) hb); have n3_ := Aside0.mk (below_step (by repeat (first | (with_reducible first | exact HB.out | apply below_alloc | apply pw_below_drewN | apply below_drew1 | refine below_set ?_ GE103.out | refine below_set ?_ GE110.out | refine below_set ?_ GE111.out) | exact HB.out)) hb); have n4_ := Aside0.mk (hbox); have n5_ := Aside0.mk ((by rw [hg]; exact (below_size (by repeat (first | (with_reducible first | exact HB.out | apply below_alloc | apply pw_below_drewN | apply below_drew1 | refine below_set ?_ GE103.out | refine below_set ?_ GE110.out | refine below_set ?_ GE111.out) | exact HB.out))) : w.heap.size ≤ gb112)); have n6_ := Aside0.mk ((by rw [hg]; exact (below_size (by repeat (first | (with_reducible first | exact HB.out | apply below_alloc | apply pw_below_drewN | apply below_drew1 | refine below_set ?_ GE103.out | refine below_set ?_ GE110.out | refine below_set ?_ GE111.out) | exact HB.out))) : w.heap.size ≤ gb112)); have n7_ := Aside0.mk ((by rw [hg]; exact Nat.ne_of_lt (blk_lt (g := gb103) (o := .cells #[.int .i64 0, .int .i64 0] 23 (0, 0)) (by (with_reducible repeat (first | refine blk_drewN ?_ _ | refine blk_drew ?_ | refine blk_alloc ?_ _)); refine blk_far ?_ NB103_111.out _; (with_reducible repeat (first | refine blk_drewN ?_ _ | refine blk_drew ?_ | refine blk_alloc ?_ _)); refine blk_far ?_ NB103_111.out _; (with_reducible repeat (first | refine blk_drewN ?_ _ | refine blk_drew ?_ | refine blk_alloc ?_ _)); refine blk_far ?_ NB103_110.out _; (with_reducible repeat (first | refine blk_drewN ?_ _ | refine blk_drew ?_ | refine blk_alloc ?_ _)); refine blk_far ?_ NB103_110.out _; (with_reducible repeat (first | refine blk_drewN ?_ _ | refine blk_drew ?_ | refine blk_alloc ?_ _)); exact BK103.out)) : gb103 ≠ gb112)); have n8_ := Aside0.mk ((by rw [hg]; exact Nat.ne_of_gt (blk_lt (g := gb103) (o := .cells #[.int .i64 0, .int .i64 0] 23 (0, 0)) (by (with_reducible repeat (first | refine blk_drewN ?_ _ | refine blk_drew ?_ | refine blk_alloc ?_ _)); refine blk_far ?_ NB103_111.out _; (with_reducible repeat (first | refine blk_drewN ?_ _ | refine blk_drew ?_ | refine blk_alloc ?_ _)); refine blk_far ?_ NB103_111.out _; (with_reducible repeat (first | refine blk_drewN ?_ _ | refine blk_drew ?_ | refine blk_alloc ?_ _)); refine blk_far ?_ NB103_110.out _; (with_reducible repeat (first | refine blk_drewN ?_ _ | refine blk_drew ?_ | refine blk_alloc ?_ _)); refine blk_far ?_ NB103_110.out _; (with_reducible repeat (first | refine blk_drewN ?_ _ | refine blk_drew ?_ | refine blk_alloc ?_ _)); exact BK103.out)) : gb112 ≠ gb103)); have n9_ := Aside0.mk ((by rw [hg]; exact Nat.ne_of_lt (blk_lt (g := gb110) (o := .cells #[.int .i64 t106, .int .i64 t107] 23 (0, 0)) (by (with_reducible repeat (first | refine blk_drewN ?_ _ | refine blk_drew ?_ | refine blk_alloc ?_ _)); refine blk_far ?_ NB110_111.out _; (with_reducible repeat (first | refine blk_drewN ?_ _ | refine blk_drew ?_ | refine blk_alloc ?_ _)); refine blk_far ?_ NB110_111.out _; (with_reducible repeat (first | refine blk_drewN ?_ _ | refine blk_drew ?_ | refine blk_alloc ?_ _)); refine blk_put (cs := #[.int .i64 t106, .int .i64 0]) ?_ 1 _ rfl; (with_reducible repeat (first | refine blk_drewN ?_ _ | refine blk_drew ?_ | refine blk_alloc ?_ _)); refine blk_put (cs := #[.int .i64 0, .int .i64 0]) ?_ 0 _ rfl; (with_reducible repeat (first | refine blk_drewN ?_ _ | refine blk_drew ?_ | refine blk_alloc ?_ _)); exact BK110.out)) : gb110 ≠ gb112)); have n10_ := Aside0.mk ((by rw [hg]; exact Nat.ne_of_gt (blk_lt (g := gb110) (o := .cells #[.int .i64 t106, .int .i64 t107] 23 (0, 0)) (by (with_reducible repeat (first | refine blk_drewN ?_ _ | refine blk_drew ?_ | refine blk_alloc ?_ _)); refine blk_far ?_ NB110_111.out _; (with_reducible repeat (first | refine blk_drewN ?_ _ | refine blk_drew ?_ | refine blk_alloc ?_ _)); refine blk_far ?_ NB110_111.out _; (with_reducible repeat (first | refine blk_drewN ?_ _ | refine blk_drew ?_ | refine blk_alloc ?_ _)); refine blk_put (cs := #[.int .i64 t106, .int .i64 0]) ?_ 1 _ rfl; (with_reducible repeat (first | refine blk_drewN ?_ _ | refine blk_drew ?_ | refine blk_alloc ?_ _)); refine blk_put (cs := #[.int .i64 0, .int .i64 0]) ?_ 0 _ rfl; (with_reducible repeat (first | refine blk_drewN ?_ _ | refine blk_drew ?_ | refine blk_alloc ?_ _)); exact BK110.out)) : gb112 ≠ gb110)); have n11_ := Aside0.mk ((by rw [hg]; exact Nat.ne_of_lt (blk_lt (g := gb111) (o := .cells #[.int .i64 t108, .int .i64 t109] 23 (0, 0)) (by (with_reducible repeat (first | refine blk_drewN ?_ _ | refine blk_drew ?_ | refine blk_alloc ?_ _)); refine blk_put (cs := #[.int .i64 t108, .int .i64 0]) ?_ 1 _ rfl; (with_reducible repeat (first | refine blk_drewN ?_ _ | refine blk_drew ?_ | refine blk_alloc ?_ _)); refine blk_put (cs := #[.int .i64 0, .int .i64 0]) ?_ 0 _ rfl; (with_reducible repeat (first | refine blk_drewN ?_ _ | refine blk_drew ?_ | refine blk_alloc ?_ _)); refine blk_far ?_ NB111_110.out _; (with_reducible repeat (first | refine blk_drewN ?_ _ | refine blk_drew ?_ | refine blk_alloc ?_ _)); refine blk_far ?_ NB111_110.out _; (with_reducible repeat (first | refine blk_drewN ?_ _ | refine blk_drew ?_ | refine blk_alloc ?_ _)); exact BK111.out)) : gb111 ≠ gb112)); have n12_ := Aside0.mk ((by rw [hg]; exact Nat.ne_of_gt (blk_lt (g := gb111) (o := .cells #[.int .i64 t108, .int .i64 t109] 23 (0, 0)) (by (with_reducible repeat (first | refine blk_drewN ?_ _ | refine blk_drew ?_ | refine blk_alloc ?_ _)); refine blk_put (cs := #[.int .i64 t108, .int .i64 0]) ?_ 1 _ rfl; (with_reducible repeat (first | refine blk_drewN ?_ _ | refine blk_drew ?_ | refine blk_alloc ?_ _)); refine blk_put (cs := #[.int .i64 0, .int .i64 0]) ?_ 0 _ rfl; (with_reducible repeat (first | refine blk_drewN ?_ _ | refine blk_drew ?_ | refine blk_alloc ?_ _)); refine blk_far ?_ NB111_110.out _; (with_reducible repeat (first | refine blk_drewN ?_ _ | refine blk_drew ?_ | refine blk_alloc ?_ _)); refine blk_far ?_ NB111_110.out _; (with_reducible repeat (first | refine blk_drewN ?_ _ | refine blk_drew ?_ | refine blk_alloc ?_ _)); exact BK111.out)) : gb112 ≠ gb111)); clear BK103; clear BK110; clear BK111; clear HB; have BK103 := n0_; have BK110 := n1_; have BK111 := n2_; have HB := n3_; have BK112 := n4_; have GW112 := n5_; have GE112 := n6_; have NB103_112 := n7_; have NB112_103 := n8_; have NB110_112 := n9_; have NB112_110 := n10_; have NB111_112 := n11_; have NB112_111 := n12_; clear n0_ n1_ n2_ n3_ n4_ n5_ n6_ n7_ n8_ n9_ n10_ n11_ n12_; clear hb hbox hg; have hnb42 := NB112_103.out; have hnc42 := NB103_112.out; have hnb43 := NB112_110.out; have hnc43 := NB110_112.out; have hnb44 := NB112_111.out; have hnc44 := NB111_112.out; have hcz45_0 : w41.cell? ⟨gb112, 0, none⟩ = some (.int .i64 0) := (blk_cell BK112.out 0).trans rfl; have hcz45_1 : w41.cell? ⟨gb112, 1, none⟩ = some (.int .i64 0) := (blk_cell BK112.out 1).trans rfl; have hfz45_0 := blk_frozen BK112.out 0; have hfz45_1 := blk_frozen BK112.out 1; have hcz46_0 : w41.cell? ⟨gb111, 0, none⟩ = some (.int .i64 t108) := (blk_cell BK111.out 0).trans rfl; have hcz46_1 : w41.cell? ⟨gb111, 1, none⟩ = some (.int .i64 t109) := (blk_cell BK111.out 1).trans rfl; have hfz46_0 := blk_frozen BK111.out 0; have hfz46_1 := blk_frozen BK111.out 1; have hcz47_0 : w41.cell? ⟨gb110, 0, none⟩ = some (.int .i64 t106) := (blk_cell BK110.out 0).trans rfl; have hcz47_1 : w41.cell? ⟨gb110, 1, none⟩ = some (.int .i64 t107) := (blk_cell BK110.out 1).trans rfl; have hfz47_0 := blk_frozen BK110.out 0; have hfz47_1 := blk_frozen BK110.out 1; have hcz48_0 : w41.cell? ⟨gb103, 0, none⟩ = some (.int .i64 0) := (blk_cell BK103.out 0).trans rfl; have hcz48_1 : w41.cell? ⟨gb103, 1, none⟩ = some (.int .i64 0) := (blk_cell BK103.out 1).trans rfl; have hfz48_0 := blk_frozen BK103.out 0; have hfz48_1 := blk_frozen BK103.out 1))
              have hX_ : ((((w41.setCell ⟨gb112, 0, none⟩ (.int .i64 t106)).setCell ⟨gb112, 1, none⟩ (.int .i64 t107)).setCell ⟨gb112, 0, none⟩ (.int .i64 t108)).setCell ⟨gb112, 1, none⟩ (.int .i64 t109)).heap[gb112]? = some (.cells #[.int .i64 t108, .int .i64 t109] 23 (0, 0)) := blk_put (cs := #[.int .i64 t108, .int .i64 t107]) (blk_put (cs := #[.int .i64 t106, .int .i64 t107]) (blk_put (cs := #[.int .i64 t106, .int .i64 0]) (blk_put (cs := #[.int .i64 0, .int .i64 0]) BK112.out 0 _ rfl) 1 _ rfl) 0 _ rfl) 1 _ rfl
              have hX0_ := (blk_cell hX_ 0).trans rfl
              have hX1_ := (blk_cell hX_ 1).trans rfl
              have hXf0_ := blk_frozen hX_ 0
              have hXf1_ := blk_frozen hX_ 1
              clear hX_
              go_wp2
              refine bodyPost_ret (results_ct rfl _ _ gb103 23 #[.int .i64 (wrap64 (t108 + (wrap64 (t104 * t109)))), .int .i64 t109] (0, 0) _ rfl (by (with_reducible repeat (first | refine blk_drewN ?_ _ | refine blk_drew ?_ | refine blk_alloc ?_ _)); refine blk_put (cs := #[.int .i64 (wrap64 (t108 + (wrap64 (t104 * t109)))), .int .i64 0]) ?_ 1 _ rfl; (with_reducible repeat (first | refine blk_drewN ?_ _ | refine blk_drew ?_ | refine blk_alloc ?_ _)); refine blk_put (cs := #[.int .i64 0, .int .i64 0]) ?_ 0 _ rfl; (with_reducible repeat (first | refine blk_drewN ?_ _ | refine blk_drew ?_ | refine blk_alloc ?_ _)); refine blk_far ?_ NB103_112.out _; (with_reducible repeat (first | refine blk_drewN ?_ _ | refine blk_drew ?_ | refine blk_alloc ?_ _)); refine blk_far ?_ NB103_112.out _; (with_reducible repeat (first | refine blk_drewN ?_ _ | refine blk_drew ?_ | refine blk_alloc ?_ _)); refine blk_far ?_ NB103_112.out _; (with_reducible repeat (first | refine blk_drewN ?_ _ | refine blk_drew ?_ | refine blk_alloc ?_ _)); refine blk_far ?_ NB103_112.out _; (with_reducible repeat (first | refine blk_drewN ?_ _ | refine blk_drew ?_ | refine blk_alloc ?_ _)); refine blk_far ?_ NB103_112.out _; (with_reducible repeat (first | refine blk_drewN ?_ _ | refine blk_drew ?_ | refine blk_alloc ?_ _)); exact BK103.out) Tryz.underlying23 rfl (by kernel_rfl)) rfl ?_
              exact ⟨by first | rfl | (simp [errW_none, errW_some] <;> rfl) | (simp [*, errW_none, errW_some] <;> rfl), by repeat (first | (with_reducible first | exact HB.out | apply below_alloc | apply pw_below_drewN | apply below_drew1 | refine below_set ?_ GE103.out | refine below_set ?_ GE110.out | refine below_set ?_ GE111.out | refine below_set ?_ GE112.out) | exact HB.out)⟩
            · rw [if_neg c32] at H
              have c32b0 : decide (t109 < t107) = false := decide_eq_false c32
              clear c32
              simp only [Option.some.injEq, Prod.mk.injEq] at H
              obtain ⟨rfl, rfl, rfl⟩ := H
              go_wp2_with (first | ((with_reducible refine gate_callee (f := 34) rfl ?_); refine goesL_ (some 41) rfl rfl Tryz.func34 (by kernel_rfl) rfl #[.int .i64 a0, .int .i64 a1] rfl (by (try simp only [List.map_toArray, List.map_cons, List.map_nil]); first | done | rfl | (simp only [List.length_drop, List.length_take]; rfl)) ?_; (with_reducible refine (num_down.calls a0 a1 t104 t105 _ A13.out).mono ?_); rintro e w' ⟨rfl, ⟨nd, rfl⟩⟩; refine ⟨_, rfl, ?_⟩; (try (rw [drewN_self wc]; generalize hq_ : World.drewN wc _ = wc; have n0_ : Aside0 (wc.heap[gb103]? = some (.cells #[.int .i64 0, .int .i64 0] 23 (0, 0))) := ⟨by rw [← hq_]; exact (by (with_reducible repeat (first | refine blk_drewN ?_ _ | refine blk_drew ?_ | refine blk_alloc ?_ _)); exact BK103.out)⟩; have n1_ : Aside0 (Below w.heap.size w wc) := ⟨by rw [← hq_]; exact (by repeat (first | (with_reducible first | exact HB.out | apply below_alloc | apply pw_below_drewN | apply below_drew1 | refine below_set ?_ GE103.out) | exact HB.out))⟩; clear BK103 HB hq_; have BK103 := n0_; have HB := n1_; clear n0_ n1_))) | ((with_reducible refine gate_callee (f := 41) rfl ?_); refine goesL_ (some 48) rfl rfl Tryz.func41 (by kernel_rfl) rfl #[.int .i64 t105, .int .i64 a1, .int .i64 a2] rfl (by (try simp only [List.map_toArray, List.map_cons, List.map_nil]); first | done | rfl | (simp only [List.length_drop, List.length_take]; rfl)) ?_; (with_reducible refine (num_around.calls kj3 t105 a1 a2 t106 t107 t108 t109 _ A14.out).mono ?_); rintro e w49 ⟨rfl, hb⟩; refine ⟨_, rfl, ?_⟩; have n0_ := Aside0.mk (blk_below (g := gb103) (o := .cells #[.int .i64 0, .int .i64 0] 23 (0, 0)) (by (with_reducible repeat (first | refine blk_drewN ?_ _ | refine blk_drew ?_ | refine blk_alloc ?_ _)); exact BK103.out) hb); have n1_ := Aside0.mk (below_step (by repeat (first | (with_reducible first | exact HB.out | apply below_alloc | apply pw_below_drewN | apply below_drew1 | refine below_set ?_ GE103.out) | exact HB.out)) hb); clear BK103; clear HB; have BK103 := n0_; have HB := n1_; clear n0_ n1_; (try clear hb); (try clear hb2); (try clear hk); (try clear hi)) | ((with_reducible refine gate_dst (N := 10) rfl ?_); refine box_event ?hg (N := 10) ?hd (cs := #[.int .i64 0, .int .i64 0]) (t := 23) ?hr ?_; (case hd => rfl); (case hg => rfl); (case hr => first | (go_simp; done) | (go_simp; rfl)); intro gb110 hg w50 hbox hb; have n0_ := Aside0.mk (blk_below (g := gb103) (o := .cells #[.int .i64 0, .int .i64 0] 23 (0, 0)) (by (with_reducible repeat (first | refine blk_drewN ?_ _ | refine blk_drew ?_ | refine blk_alloc ?_ _)); exact BK103.out) hb); have n1_ := Aside0.mk (below_step (by repeat (first | (with_reducible first | exact HB.out | apply below_alloc | apply pw_below_drewN | apply below_drew1 | refine below_set ?_ GE103.out) | exact HB.out)) hb); have n2_ := Aside0.mk (hbox); have n3_ := Aside0.mk ((by rw [hg]; exact (below_size (by repeat (first | (with_reducible first | exact HB.out | apply below_alloc | apply pw_below_drewN | apply below_drew1 | refine below_set ?_ GE103.out) | exact HB.out))) : w.heap.size ≤ gb110)); have n4_ := Aside0.mk ((by rw [hg]; exact (below_size (by repeat (first | (with_reducible first | exact HB.out | apply below_alloc | apply pw_below_drewN | apply below_drew1 | refine below_set ?_ GE103.out) | exact HB.out))) : w.heap.size ≤ gb110)); have n5_ := Aside0.mk ((by rw [hg]; exact Nat.ne_of_lt (blk_lt (g := gb103) (o := .cells #[.int .i64 0, .int .i64 0] 23 (0, 0)) (by (with_reducible repeat (first | refine blk_drewN ?_ _ | refine blk_drew ?_ | refine blk_alloc ?_ _)); exact BK103.out)) : gb103 ≠ gb110)); have n6_ := Aside0.mk ((by rw [hg]; exact Nat.ne_of_gt (blk_lt (g := gb103) (o := .cells #[.int .i64 0, .int .i64 0] 23 (0, 0)) (by (with_reducible repeat (first | refine blk_drewN ?_ _ | refine blk_drew ?_ | refine blk_alloc ?_ _)); exact BK103.out)) : gb110 ≠ gb103)); clear BK103; clear HB; have BK103 := n0_; have HB := n1_; have BK110 := n2_; have GW110 := n3_; have GE110 := n4_; have NB103_110 := n5_; have NB110_103 := n6_; clear n0_ n1_ n2_ n3_ n4_ n5_ n6_; clear hb hbox hg) | ((with_reducible refine gate_dst (N := 11) rfl ?_); refine box_event ?hg (N := 11) ?hd (cs := #[.int .i64 0, .int .i64 0]) (t := 23) ?hr ?_; (case hd => rfl); (case hg => rfl); (case hr => first | (go_simp; done) | (go_simp; rfl)); intro gb111 hg w51 hbox hb; have n0_ := Aside0.mk (blk_below (g := gb103) (o := .cells #[.int .i64 0, .int .i64 0] 23 (0, 0)) (by (with_reducible repeat (first | refine blk_drewN ?_ _ | refine blk_drew ?_ | refine blk_alloc ?_ _)); exact BK103.out) hb); have n1_ := Aside0.mk (blk_below (g := gb110) (o := .cells #[.int .i64 0, .int .i64 0] 23 (0, 0)) (by (with_reducible repeat (first | refine blk_drewN ?_ _ | refine blk_drew ?_ | refine blk_alloc ?_ _)); exact BK110.out) hb); have n2_ := Aside0.mk (below_step (by repeat (first | (with_reducible first | exact HB.out | apply below_alloc | apply pw_below_drewN | apply below_drew1 | refine below_set ?_ GE103.out | refine below_set ?_ GE110.out) | exact HB.out)) hb); have n3_ := Aside0.mk (hbox); have n4_ := Aside0.mk ((by rw [hg]; exact (below_size (by repeat (first | (with_reducible first | exact HB.out | apply below_alloc | apply pw_below_drewN | apply below_drew1 | refine below_set ?_ GE103.out | refine below_set ?_ GE110.out) | exact HB.out))) : w.heap.size ≤ gb111)); have n5_ := Aside0.mk ((by rw [hg]; exact (below_size (by repeat (first | (with_reducible first | exact HB.out | apply below_alloc | apply pw_below_drewN | apply below_drew1 | refine below_set ?_ GE103.out | refine below_set ?_ GE110.out) | exact HB.out))) : w.heap.size ≤ gb111)); have n6_ := Aside0.mk ((by rw [hg]; exact Nat.ne_of_lt (blk_lt (g := gb103) (o := .cells #[.int .i64 0, .int .i64 0] 23 (0, 0)) (by (with_reducible repeat (first | refine blk_drewN ?_ _ | refine blk_drew ?_ | refine blk_alloc ?_ _)); exact BK103.out)) : gb103 ≠ gb111)); have n7_ := Aside0.mk ((by rw [hg]; exact Nat.ne_of_gt (blk_lt (g := gb103) (o := .cells #[.int .i64 0, .int .i64 0] 23 (0, 0)) (by (with_reducible repeat (first | refine blk_drewN ?_ _ | refine blk_drew ?_ | refine blk_alloc ?_ _)); exact BK103.out)) : gb111 ≠ gb103)); have n8_ := Aside0.mk ((by rw [hg]; exact Nat.ne_of_lt (blk_lt (g := gb110) (o := .cells #[.int .i64 0, .int .i64 0] 23 (0, 0)) (by (with_reducible repeat (first | refine blk_drewN ?_ _ | refine blk_drew ?_ | refine blk_alloc ?_ _)); exact BK110.out)) : gb110 ≠ gb111)); have n9_ := Aside0.mk ((by rw [hg]; exact Nat.ne_of_gt (blk_lt (g := gb110) (o := .cells #[.int .i64 0, .int .i64 0] 23 (0, 0)) (by (with_reducible repeat (first | refine blk_drewN ?_ _ | refine blk_drew ?_ | refine blk_alloc ?_ _)); exact BK110.out)) : gb111 ≠ gb110)); clear BK103; clear BK110; clear HB; have BK103 := n0_; have BK110 := n1_; have HB := n2_; have BK111 := n3_; have GW111 := n4_; have GE111 := n5_; have NB103_111 := n6_; have NB111_103 := n7_; have NB110_111 := n8_; have NB111_110 := n9_; clear n0_ n1_ n2_ n3_ n4_ n5_ n6_ n7_ n8_ n9_; clear hb hbox hg; have hnb52 := NB110_103.out; have hnc52 := NB103_110.out; have hnb53 := NB110_111.out; have hnc53 := NB111_110.out; have hcz54_0 : w51.cell? ⟨gb110, 0, none⟩ = some (.int .i64 0) := (blk_cell BK110.out 0).trans rfl; have hcz54_1 : w51.cell? ⟨gb110, 1, none⟩ = some (.int .i64 0) := (blk_cell BK110.out 1).trans rfl; have hfz54_0 := blk_frozen BK110.out 0; have hfz54_1 := blk_frozen BK110.out 1; have hnb55 := NB111_103.out; have hnc55 := NB103_111.out; have hcz56_0 : w51.cell? ⟨gb111, 0, none⟩ = some (.int .i64 0) := (blk_cell BK111.out 0).trans rfl; have hcz56_1 : w51.cell? ⟨gb111, 1, none⟩ = some (.int .i64 0) := (blk_cell BK111.out 1).trans rfl; have hfz56_0 := blk_frozen BK111.out 0; have hfz56_1 := blk_frozen BK111.out 1) | ((with_reducible refine gate_dst (N := 14) rfl ?_); refine box_event ?hg (N := 14) ?hd (cs := #[.int .i64 0, .int .i64 0]) (t := 23) ?hr ?_; (case hd => rfl); (case hg => rfl); (case hr => first | (go_simp; done) | (go_simp; rfl)); intro gb112 hg w57 hbox hb; have n0_ := Aside0.mk (blk_below (g := gb103) (o := .cells #[.int .i64 0, .int .i64 0] 23 (0, 0)) (by (with_reducible repeat (first | refine blk_drewN ?_ _ | refine blk_drew ?_ | refine blk_alloc ?_ _)); refine blk_far ?_ NB103_111.out _; (with_reducible repeat (first | refine blk_drewN ?_ _ | refine blk_drew ?_ | refine blk_alloc ?_ _)); refine blk_far ?_ NB103_111.out _; (with_reducible repeat (first | refine blk_drewN ?_ _ | refine blk_drew ?_ | refine blk_alloc ?_ _)); refine blk_far ?_ NB103_110.out _; (with_reducible repeat (first | refine blk_drewN ?_ _ | refine blk_drew ?_ | refine blk_alloc ?_ _)); refine blk_far ?_ NB103_110.out _; (with_reducible repeat (first | refine blk_drewN ?_ _ | refine blk_drew ?_ | refine blk_alloc ?_ _)); exact BK103.out) hb); have n1_ := Aside0.mk (blk_below (g := gb110) (o := .cells #[.int .i64 t106, .int .i64 t107] 23 (0, 0)) (by (with_reducible repeat (first | refine blk_drewN ?_ _ | refine blk_drew ?_ | refine blk_alloc ?_ _)); refine blk_far ?_ NB110_111.out _; (with_reducible repeat (first | refine blk_drewN ?_ _ | refine blk_drew ?_ | refine blk_alloc ?_ _)); refine blk_far ?_ NB110_111.out _; (with_reducible repeat (first | refine blk_drewN ?_ _ | refine blk_drew ?_ | refine blk_alloc ?_ _)); refine blk_put (cs := #[.int .i64 t106, .int .i64 0]) ?_ 1 _ rfl; (with_reducible repeat (first | refine blk_drewN ?_ _ | refine blk_drew ?_ | refine blk_alloc ?_ _)); refine blk_put (cs := #[.int .i64 0, .int .i64 0]) ?_ 0 _ rfl; (with_reducible repeat (first | refine blk_drewN ?_ _ | refine blk_drew ?_ | refine blk_alloc ?_ _)); exact BK110.out) hb); have n2_ := Aside0.mk (blk_below (g := gb111) (o := .cells #[.int .i64 t108, .int .i64 t109] 23 (0, 0)) (by (with_reducible repeat (first | refine blk_drewN ?_ _ | refine blk_drew ?_ | refine blk_alloc ?_ _)); refine blk_put (cs := #[.int .i64 t108, .int .i64 0]) ?_ 1 _ rfl; (with_reducible repeat (first | refine blk_drewN ?_ _ | refine blk_drew ?_ | refine blk_alloc ?_ _)); refine blk_put (cs := #[.int .i64 0, .int .i64 0]) ?_ 0 _ rfl; (with_reducible repeat (first | refine blk_drewN ?_ _ | refine blk_drew ?_ | refine blk_alloc ?_ _)); refine blk_far ?_ NB111_110.out _; (with_reducible repeat (first | refine blk_drewN ?_ _ | refine blk_drew ?_ | refine blk_alloc ?_ _)); refine blk_far ?_ NB111_110.out _; (with_reducible repeat (first | refine blk_drewN ?_ _ | refine blk_drew ?_ | refine blk_alloc ?_ _)); exact BK111.out) hb); have n3_ := Aside0.mk (below_step (by repeat (first | (with_reducible first | exact HB.out | apply below_alloc | apply pw_below_drewN | apply below_drew1 | refine below_set ?_ GE103.out | refine below_set ?_ GE110.out | refine below_set ?_ GE111.out) | exact HB.out)) hb); have n4_ := Aside0.mk (hbox); have n5_ := Aside0.mk ((by rw [hg]; exact (below_size (by repeat (first | (with_reducible first | exact HB.out | apply below_alloc | apply pw_below_drewN | apply below_drew1 | refine below_set ?_ GE103.out | refine below_set ?_ GE110.out | refine below_set ?_ GE111.out) | exact HB.out))) : w.heap.size ≤ gb112)); have n6_ := Aside0.mk ((by rw [hg]; exact (below_size (by repeat (first | (with_reducible first | exact HB.out | apply below_alloc | apply pw_below_drewN | apply below_drew1 | refine below_set ?_ GE103.out | refine below_set ?_ GE110.out | refine below_set ?_ GE111.out) | exact HB.out))) : w.heap.size ≤ gb112)); have n7_ := Aside0.mk ((by rw [hg]; exact Nat.ne_of_lt (blk_lt (g := gb103) (o := .cells #[.int .i64 0, .int .i64 0] 23 (0, 0)) (by (with_reducible repeat (first | refine blk_drewN ?_ _ | refine blk_drew ?_ | refine blk_alloc ?_ _)); refine blk_far ?_ NB103_111.out _; (with_reducible repeat (first | refine blk_drewN ?_ _ | refine blk_drew ?_ | refine blk_alloc ?_ _)); refine blk_far ?_ NB103_111.out _; (with_reducible repeat (first | refine blk_drewN ?_ _ | refine blk_drew ?_ | refine blk_alloc ?_ _)); refine blk_far ?_ NB103_110.out _; (with_reducible repeat (first | refine blk_drewN ?_ _ | refine blk_drew ?_ | refine blk_alloc ?_ _)); refine blk_far ?_ NB103_110.out _; (with_reducible repeat (first | refine blk_drewN ?_ _ | refine blk_drew ?_ | refine blk_alloc ?_ _)); exact BK103.out)) : gb103 ≠ gb112)); have n8_ := Aside0.mk ((by rw [hg]; exact Nat.ne_of_gt (blk_lt (g := gb103) (o := .cells #[.int .i64 0, .int .i64 0] 23 (0, 0)) (by (with_reducible repeat (first | refine blk_drewN ?_ _ | refine blk_drew ?_ | refine blk_alloc ?_ _)); refine blk_far ?_ NB103_111.out _; (with_reducible repeat (first | refine blk_drewN ?_ _ | refine blk_drew ?_ | refine blk_alloc ?_ _)); refine blk_far ?_ NB103_111.out _; (with_reducible repeat (first | refine blk_drewN ?_ _ | refine blk_drew ?_ | refine blk_alloc ?_ _)); refine blk_far ?_ NB103_110.out _; (with_reducible repeat (first | refine blk_drewN ?_ _ | refine blk_drew ?_ | refine blk_alloc ?_ _)); refine blk_far ?_ NB103_110.out _; (with_reducible repeat (first | refine blk_drewN ?_ _ | refine blk_drew ?_ | refine blk_alloc ?_ _)); exact BK103.out)) : gb112 ≠ gb103)); have n9_ := Aside0.mk ((by rw [hg]; exact Nat.ne_of_lt (blk_lt (g := gb110) (o := .cells #[.int .i64 t106, .int .i64 t107] 23 (0, 0)) (by (with_reducible repeat (first | refine blk_drewN ?_ _ | refine blk_drew ?_ | refine blk_alloc ?_ _)); refine blk_far ?_ NB110_111.out _; (with_reducible repeat (first | refine blk_drewN ?_ _ | refine blk_drew ?_ | refine blk_alloc ?_ _)); refine blk_far ?_ NB110_111.out _; (with_reducible repeat (first | refine blk_drewN ?_ _ | refine blk_drew ?_ | refine blk_alloc ?_ _)); refine blk_put (cs := #[.int .i64 t106, .int .i64 0]) ?_ 1 _ rfl; (with_reducible repeat (first | refine blk_drewN ?_ _ | refine blk_drew ?_ | refine blk_alloc ?_ _)); refine blk_put (cs := #[.int .i64 0, .int .i64 0]) ?_ 0 _ rfl; (with_reducible repeat (first | refine blk_drewN ?_ _ | refine blk_drew ?_ | refine blk_alloc ?_ _)); exact BK110.out)) : gb110 ≠ gb112)); have n10_ := Aside0.mk ((by rw [hg]; exact Nat.ne_of_gt (blk_lt (g := gb110) (o := .cells #[.int .i64 t106, .int .i64 t107] 23 (0, 0)) (by (with_reducible repeat (first | refine blk_drewN ?_ _ | refine blk_drew ?_ | refine blk_alloc ?_ _)); refine blk_far ?_ NB110_111.out _; (with_reducible repeat (first | refine blk_drewN ?_ _ | refine blk_drew ?_ | refine blk_alloc ?_ _)); refine blk_far ?_ NB110_111.out _; (with_reducible repeat (first | refine blk_drewN ?_ _ | refine blk_drew ?_ | refine blk_alloc ?_ _)); refine blk_put (cs := #[.int .i64 t106, .int .i64 0]) ?_ 1 _ rfl; (with_reducible repeat (first | refine blk_drewN ?_ _ | refine blk_drew ?_ | refine blk_alloc ?_ _)); refine blk_put (cs := #[.int .i64 0, .int .i64 0]) ?_ 0 _ rfl; (with_reducible repeat (first | refine blk_drewN ?_ _ | refine blk_drew ?_ | refine blk_alloc ?_ _)); exact BK110.out)) : gb112 ≠ gb110)); have n11_ := Aside0.mk ((by rw [hg]; exact Nat.ne_of_lt (blk_lt (g := gb111) (o := .cells #[.int .i64 t108, .int .i64 t109] 23 (0, 0)) (by (with_reducible repeat (first | refine blk_drewN ?_ _ | refine blk_drew ?_ | refine blk_alloc ?_ _)); refine blk_put (cs := #[.int .i64 t108, .int .i64 0]) ?_ 1 _ rfl; (with_reducible repeat (first | refine blk_drewN ?_ _ | refine blk_drew ?_ | refine blk_alloc ?_ _)); refine blk_put (cs := #[.int .i64 0, .int .i64 0]) ?_ 0 _ rfl; (with_reducible repeat (first | refine blk_drewN ?_ _ | refine blk_drew ?_ | refine blk_alloc ?_ _)); refine blk_far ?_ NB111_110.out _; (with_reducible repeat (first | refine blk_drewN ?_ _ | refine blk_drew ?_ | refine blk_alloc ?_ _)); refine blk_far ?_ NB111_110.out _; (with_reducible repeat (first | refine blk_drewN ?_ _ | refine blk_drew ?_ | refine blk_alloc ?_ _)); exact BK111.out)) : gb111 ≠ gb112)); have n12_ := Aside0.mk ((by rw [hg]; exact Nat.ne_of_gt (blk_lt (g := gb111) (o := .cells #[.int .i64 t108, .int .i64 t109] 23 (0, 0)) (by (with_reducible repeat (first | refine blk_drewN ?_ _ | refine blk_drew ?_ | refine blk_alloc ?_ _)); refine blk_put (cs := #[.int .i64 t108, .int .i64 0]) ?_ 1 _ rfl; (with_reducible repeat (first | refine blk_drewN ?_ _ | refine blk_drew ?_ | refine blk_alloc ?_ _)); refine blk_put (cs := #[.int .i64 0, .int .i64 0]) ?_ 0 _ rfl; (with_reducible repeat (first | refine blk_drewN ?_ _ | refine blk_drew ?_ | refine blk_alloc ?_ _)); refine blk_far ?_ NB111_110.out _; (with_reducible repeat (first | refine blk_drewN ?_ _ | refine blk_drew ?_ | refine blk_alloc ?_ _)); refine blk_far ?_ NB111_110.out _; (with_reducible repeat (first | refine blk_drewN ?_ _ | refine blk_drew ?_ | refine blk_alloc ?_ _)); exact BK111.out)) : gb112 ≠ gb111)); clear BK103; clear BK110; clear BK111; clear HB; have BK103 := n0_; have BK110 := n1_; have BK111 := n2_; have HB := n3_; have BK112 := n4_; have GW112 := n5_; have GE112 := n6_; have NB103_112 := n7_; have NB112_103 := n8_; have NB110_112 := n9_; have NB112_110 := n10_; have NB111_112 := n11_; have NB112_111 := n12_; clear n0_ n1_ n2_ n3_ n4_ n5_ n6_ n7_ n8_ n9_ n10_ n11_ n12_; clear hb hbox hg; have hnb58 := NB112_103.out; have hnc58 := NB103_112.out; have hnb59 := NB112_110.out; have hnc59 := NB110_112.out; have hnb60 := NB112_111.out; have hnc60 := NB111_112.out; have hcz61_0 : w57.cell? ⟨gb112, 0, none⟩ = some (.int .i64 0) := (blk_cell BK112.out 0).trans rfl; have hcz61_1 : w57.cell? ⟨gb112, 1, none⟩ = some (.int .i64 0) := (blk_cell BK112.out 1).trans rfl; have hfz61_0 := blk_frozen BK112.out 0; have hfz61_1 := blk_frozen BK112.out 1; have hcz62_0 : w57.cell? ⟨gb111, 0, none⟩ = some (.int .i64 t108) := (blk_cell BK111.out 0).trans rfl; have hcz62_1 : w57.cell? ⟨gb111, 1, none⟩ = some (.int .i64 t109) := (blk_cell BK111.out 1).trans rfl; have hfz62_0 := blk_frozen BK111.out 0; have hfz62_1 := blk_frozen BK111.out 1; have hcz63_0 : w57.cell? ⟨gb110, 0, none⟩ = some (.int .i64 t106) := (blk_cell BK110.out 0).trans rfl; have hcz63_1 : w57.cell? ⟨gb110, 1, none⟩ = some (.int .i64 t107) := (blk_cell BK110.out 1).trans rfl; have hfz63_0 := blk_frozen BK110.out 0; have hfz63_1 := blk_frozen BK110.out 1; have hcz64_0 : w57.cell? ⟨gb103, 0, none⟩ = some (.int .i64 0) := (blk_cell BK103.out 0).trans rfl; have hcz64_1 : w57.cell? ⟨gb103, 1, none⟩ = some (.int .i64 0) := (blk_cell BK103.out 1).trans rfl; have hfz64_0 := blk_frozen BK103.out 0; have hfz64_1 := blk_frozen BK103.out 1))
              refine bodyPost_ret (results_ct rfl _ _ gb103 23 #[.int .i64 (wrap64 (t106 + (wrap64 (t104 * t107)))), .int .i64 t107] (0, 0) _ rfl (by (with_reducible repeat (first | refine blk_drewN ?_ _ | refine blk_drew ?_ | refine blk_alloc ?_ _)); refine blk_put (cs := #[.int .i64 (wrap64 (t106 + (wrap64 (t104 * t107)))), .int .i64 0]) ?_ 1 _ rfl; (with_reducible repeat (first | refine blk_drewN ?_ _ | refine blk_drew ?_ | refine blk_alloc ?_ _)); refine blk_put (cs := #[.int .i64 0, .int .i64 0]) ?_ 0 _ rfl; (with_reducible repeat (first | refine blk_drewN ?_ _ | refine blk_drew ?_ | refine blk_alloc ?_ _)); refine blk_far ?_ NB103_112.out _; (with_reducible repeat (first | refine blk_drewN ?_ _ | refine blk_drew ?_ | refine blk_alloc ?_ _)); refine blk_far ?_ NB103_112.out _; (with_reducible repeat (first | refine blk_drewN ?_ _ | refine blk_drew ?_ | refine blk_alloc ?_ _)); refine blk_far ?_ NB103_112.out _; (with_reducible repeat (first | refine blk_drewN ?_ _ | refine blk_drew ?_ | refine blk_alloc ?_ _)); exact BK103.out) Tryz.underlying23 rfl (by kernel_rfl)) rfl ?_
              exact ⟨by first | rfl | (simp [errW_none, errW_some] <;> rfl) | (simp [*, errW_none, errW_some] <;> rfl), by repeat (first | (with_reducible first | exact HB.out | apply below_alloc | apply pw_below_drewN | apply below_drew1 | refine below_set ?_ GE103.out | refine below_set ?_ GE110.out | refine below_set ?_ GE111.out | refine below_set ?_ GE112.out) | exact HB.out)⟩
          · rw [if_neg c31] at H
            have c31b0 : ((wrap64 ((wrap64 ((wrap64 (t108 * a1)) - (wrap64 (t105 * t109)))) * t107)) == (wrap64 ((wrap64 ((wrap64 (t105 * t107)) - (wrap64 (t106 * a1)))) * t109))) = false := beq_eq_false_iff_ne.mpr c31
            have c31b1 : ((wrap64 ((wrap64 ((wrap64 (t108 * a1)) - (wrap64 (t105 * t109)))) * t107)) != (wrap64 ((wrap64 ((wrap64 (t105 * t107)) - (wrap64 (t106 * a1)))) * t109))) = true := bne_iff_ne.mpr c31
            simp only [Option.some.injEq, Prod.mk.injEq] at H
            obtain ⟨rfl, rfl, rfl⟩ := H
            go_wp2_with (first | ((with_reducible refine gate_callee (f := 34) rfl ?_); refine goesL_ (some 41) rfl rfl Tryz.func34 (by kernel_rfl) rfl #[.int .i64 a0, .int .i64 a1] rfl (by (try simp only [List.map_toArray, List.map_cons, List.map_nil]); first | done | rfl | (simp only [List.length_drop, List.length_take]; rfl)) ?_; (with_reducible refine (num_down.calls a0 a1 t104 t105 _ A13.out).mono ?_); rintro e w' ⟨rfl, ⟨nd, rfl⟩⟩; refine ⟨_, rfl, ?_⟩; (try (rw [drewN_self wc]; generalize hq_ : World.drewN wc _ = wc; have n0_ : Aside0 (wc.heap[gb103]? = some (.cells #[.int .i64 0, .int .i64 0] 23 (0, 0))) := ⟨by rw [← hq_]; exact (by (with_reducible repeat (first | refine blk_drewN ?_ _ | refine blk_drew ?_ | refine blk_alloc ?_ _)); exact BK103.out)⟩; have n1_ : Aside0 (Below w.heap.size w wc) := ⟨by rw [← hq_]; exact (by repeat (first | (with_reducible first | exact HB.out | apply below_alloc | apply pw_below_drewN | apply below_drew1 | refine below_set ?_ GE103.out) | exact HB.out))⟩; clear BK103 HB hq_; have BK103 := n0_; have HB := n1_; clear n0_ n1_))) | ((with_reducible refine gate_callee (f := 41) rfl ?_); refine goesL_ (some 48) rfl rfl Tryz.func41 (by kernel_rfl) rfl #[.int .i64 t105, .int .i64 a1, .int .i64 a2] rfl (by (try simp only [List.map_toArray, List.map_cons, List.map_nil]); first | done | rfl | (simp only [List.length_drop, List.length_take]; rfl)) ?_; (with_reducible refine (num_around.calls kj3 t105 a1 a2 t106 t107 t108 t109 _ A14.out).mono ?_); rintro e w65 ⟨rfl, hb⟩; refine ⟨_, rfl, ?_⟩; have n0_ := Aside0.mk (blk_below (g := gb103) (o := .cells #[.int .i64 0, .int .i64 0] 23 (0, 0)) (by (with_reducible repeat (first | refine blk_drewN ?_ _ | refine blk_drew ?_ | refine blk_alloc ?_ _)); exact BK103.out) hb); have n1_ := Aside0.mk (below_step (by repeat (first | (with_reducible first | exact HB.out | apply below_alloc | apply pw_below_drewN | apply below_drew1 | refine below_set ?_ GE103.out) | exact HB.out)) hb); clear BK103; clear HB; have BK103 := n0_; have HB := n1_; clear n0_ n1_; (try clear hb); (try clear hb2); (try clear hk); (try clear hi)) | ((with_reducible refine gate_dst (N := 10) rfl ?_); refine box_event ?hg (N := 10) ?hd (cs := #[.int .i64 0, .int .i64 0]) (t := 23) ?hr ?_; (case hd => rfl); (case hg => rfl); (case hr => first | (go_simp; done) | (go_simp; rfl)); intro gb110 hg w66 hbox hb; have n0_ := Aside0.mk (blk_below (g := gb103) (o := .cells #[.int .i64 0, .int .i64 0] 23 (0, 0)) (by (with_reducible repeat (first | refine blk_drewN ?_ _ | refine blk_drew ?_ | refine blk_alloc ?_ _)); exact BK103.out) hb); have n1_ := Aside0.mk (below_step (by repeat (first | (with_reducible first | exact HB.out | apply below_alloc | apply pw_below_drewN | apply below_drew1 | refine below_set ?_ GE103.out) | exact HB.out)) hb); have n2_ := Aside0.mk (hbox); have n3_ := Aside0.mk ((by rw [hg]; exact (below_size (by repeat (first | (with_reducible first | exact HB.out | apply below_alloc | apply pw_below_drewN | apply below_drew1 | refine below_set ?_ GE103.out) | exact HB.out))) : w.heap.size ≤ gb110)); have n4_ := Aside0.mk ((by rw [hg]; exact (below_size (by repeat (first | (with_reducible first | exact HB.out | apply below_alloc | apply pw_below_drewN | apply below_drew1 | refine below_set ?_ GE103.out) | exact HB.out))) : w.heap.size ≤ gb110)); have n5_ := Aside0.mk ((by rw [hg]; exact Nat.ne_of_lt (blk_lt (g := gb103) (o := .cells #[.int .i64 0, .int .i64 0] 23 (0, 0)) (by (with_reducible repeat (first | refine blk_drewN ?_ _ | refine blk_drew ?_ | refine blk_alloc ?_ _)); exact BK103.out)) : gb103 ≠ gb110)); have n6_ := Aside0.mk ((by rw [hg]; exact Nat.ne_of_gt (blk_lt (g := gb103) (o := .cells #[.int .i64 0, .int .i64 0] 23 (0, 0)) (by (with_reducible repeat (first | refine blk_drewN ?_ _ | refine blk_drew ?_ | refine blk_alloc ?_ _)); exact BK103.out)) : gb110 ≠ gb103)); clear BK103; clear HB; have BK103 := n0_; have HB := n1_; have BK110 := n2_; have GW110 := n3_; have GE110 := n4_; have NB103_110 := n5_; have NB110_103 := n6_; clear n0_ n1_ n2_ n3_ n4_ n5_ n6_; clear hb hbox hg) | ((with_reducible refine gate_dst (N := 11) rfl ?_); refine box_event ?hg (N := 11) ?hd (cs := #[.int .i64 0, .int .i64 0]) (t := 23) ?hr ?_; (case hd => rfl); (case hg => rfl); (case hr => first | (go_simp; done) | (go_simp; rfl)); intro gb111 hg w67 hbox hb; have n0_ := Aside0.mk (blk_below (g := gb103) (o := .cells #[.int .i64 0, .int .i64 0] 23 (0, 0)) (by (with_reducible repeat (first | refine blk_drewN ?_ _ | refine blk_drew ?_ | refine blk_alloc ?_ _)); exact BK103.out) hb); have n1_ := Aside0.mk (blk_below (g := gb110) (o := .cells #[.int .i64 0, .int .i64 0] 23 (0, 0)) (by (with_reducible repeat (first | refine blk_drewN ?_ _ | refine blk_drew ?_ | refine blk_alloc ?_ _)); exact BK110.out) hb); have n2_ := Aside0.mk (below_step (by repeat (first | (with_reducible first | exact HB.out | apply below_alloc | apply pw_below_drewN | apply below_drew1 | refine below_set ?_ GE103.out | refine below_set ?_ GE110.out) | exact HB.out)) hb); have n3_ := Aside0.mk (hbox); have n4_ := Aside0.mk ((by rw [hg]; exact (below_size (by repeat (first | (with_reducible first | exact HB.out | apply below_alloc | apply pw_below_drewN | apply below_drew1 | refine below_set ?_ GE103.out | refine below_set ?_ GE110.out) | exact HB.out))) : w.heap.size ≤ gb111)); have n5_ := Aside0.mk ((by rw [hg]; exact (below_size (by repeat (first | (with_reducible first | exact HB.out | apply below_alloc | apply pw_below_drewN | apply below_drew1 | refine below_set ?_ GE103.out | refine below_set ?_ GE110.out) | exact HB.out))) : w.heap.size ≤ gb111)); have n6_ := Aside0.mk ((by rw [hg]; exact Nat.ne_of_lt (blk_lt (g := gb103) (o := .cells #[.int .i64 0, .int .i64 0] 23 (0, 0)) (by (with_reducible repeat (first | refine blk_drewN ?_ _ | refine blk_drew ?_ | refine blk_alloc ?_ _)); exact BK103.out)) : gb103 ≠ gb111)); have n7_ := Aside0.mk ((by rw [hg]; exact Nat.ne_of_gt (blk_lt (g := gb103) (o := .cells #[.int .i64 0, .int .i64 0] 23 (0, 0)) (by (with_reducible repeat (first | refine blk_drewN ?_ _ | refine blk_drew ?_ | refine blk_alloc ?_ _)); exact BK103.out)) : gb111 ≠ gb103)); have n8_ := Aside0.mk ((by rw [hg]; exact Nat.ne_of_lt (blk_lt (g := gb110) (o := .cells #[.int .i64 0, .int .i64 0] 23 (0, 0)) (by (with_reducible repeat (first | refine blk_drewN ?_ _ | refine blk_drew ?_ | refine blk_alloc ?_ _)); exact BK110.out)) : gb110 ≠ gb111)); have n9_ := Aside0.mk ((by rw [hg]; exact Nat.ne_of_gt (blk_lt (g := gb110) (o := .cells #[.int .i64 0, .int .i64 0] 23 (0, 0)) (by (with_reducible repeat (first | refine blk_drewN ?_ _ | refine blk_drew ?_ | refine blk_alloc ?_ _)); exact BK110.out)) : gb111 ≠ gb110)); clear BK103; clear BK110; clear HB; have BK103 := n0_; have BK110 := n1_; have HB := n2_; have BK111 := n3_; have GW111 := n4_; have GE111 := n5_; have NB103_111 := n6_; have NB111_103 := n7_; have NB110_111 := n8_; have NB111_110 := n9_; clear n0_ n1_ n2_ n3_ n4_ n5_ n6_ n7_ n8_ n9_; clear hb hbox hg; have hnb68 := NB110_103.out; have hnc68 := NB103_110.out; have hnb69 := NB110_111.out; have hnc69 := NB111_110.out; have hcz70_0 : w67.cell? ⟨gb110, 0, none⟩ = some (.int .i64 0) := (blk_cell BK110.out 0).trans rfl; have hcz70_1 : w67.cell? ⟨gb110, 1, none⟩ = some (.int .i64 0) := (blk_cell BK110.out 1).trans rfl; have hfz70_0 := blk_frozen BK110.out 0; have hfz70_1 := blk_frozen BK110.out 1; have hnb71 := NB111_103.out; have hnc71 := NB103_111.out; have hcz72_0 : w67.cell? ⟨gb111, 0, none⟩ = some (.int .i64 0) := (blk_cell BK111.out 0).trans rfl; have hcz72_1 : w67.cell? ⟨gb111, 1, none⟩ = some (.int .i64 0) := (blk_cell BK111.out 1).trans rfl; have hfz72_0 := blk_frozen BK111.out 0; have hfz72_1 := blk_frozen BK111.out 1) | ((with_reducible refine gate_dst (N := 14) rfl ?_); refine box_event ?hg (N := 14) ?hd (cs := #[.int .i64 0, .int .i64 0]) (t := 23) ?hr ?_; (case hd => rfl); (case hg => rfl); (case hr => first | (go_simp; done) | (go_simp; rfl)); intro gb112 hg w73 hbox hb; have n0_ := Aside0.mk (blk_below (g := gb103) (o := .cells #[.int .i64 0, .int .i64 0] 23 (0, 0)) (by (with_reducible repeat (first | refine blk_drewN ?_ _ | refine blk_drew ?_ | refine blk_alloc ?_ _)); refine blk_far ?_ NB103_111.out _; (with_reducible repeat (first | refine blk_drewN ?_ _ | refine blk_drew ?_ | refine blk_alloc ?_ _)); refine blk_far ?_ NB103_111.out _; (with_reducible repeat (first | refine blk_drewN ?_ _ | refine blk_drew ?_ | refine blk_alloc ?_ _)); refine blk_far ?_ NB103_110.out _; (with_reducible repeat (first | refine blk_drewN ?_ _ | refine blk_drew ?_ | refine blk_alloc ?_ _)); refine blk_far ?_ NB103_110.out _; (with_reducible repeat (first | refine blk_drewN ?_ _ | refine blk_drew ?_ | refine blk_alloc ?_ _)); exact BK103.out) hb); have n1_ := Aside0.mk (blk_below (g := gb110) (o := .cells #[.int .i64 t106, .int .i64 t107] 23 (0, 0)) (by (with_reducible repeat (first | refine blk_drewN ?_ _ | refine blk_drew ?_ | refine blk_alloc ?_ _)); refine blk_far ?_ NB110_111.out _; (with_reducible repeat (first | refine blk_drewN ?_ _ | refine blk_drew ?_ | refine blk_alloc ?_ _)); refine blk_far ?_ NB110_111.out _; (with_reducible repeat (first | refine blk_drewN ?_ _ | refine blk_drew ?_ | refine blk_alloc ?_ _)); refine blk_put (cs := #[.int .i64 t106, .int .i64 0]) ?_ 1 _ rfl; (with_reducible repeat (first | refine blk_drewN ?_ _ | refine blk_drew ?_ | refine blk_alloc ?_ _)); refine blk_put (cs := #[.int .i64 0, .int .i64 0]) ?_ 0 _ rfl; (with_reducible repeat (first | refine blk_drewN ?_ _ | refine blk_drew ?_ | refine blk_alloc ?_ _)); exact BK110.out) hb); have n2_ := Aside0.mk (blk_below (g := gb111) (o := .cells #[.int .i64 t108, .int .i64 t109] 23 (0, 0)) (by (with_reducible repeat (first | refine blk_drewN ?_ _ | refine blk_drew ?_ | refine blk_alloc ?_ _)); refine blk_put (cs := #[.int .i64 t108, .int .i64 0]) ?_ 1 _ rfl; (with_reducible repeat (first | refine blk_drewN ?_ _ | refine blk_drew ?_ | refine blk_alloc ?_ _)); refine blk_put (cs := #[.int .i64 0, .int .i64 0]) ?_ 0 _ rfl; (with_reducible repeat (first | refine blk_drewN ?_ _ | refine blk_drew ?_ | refine blk_alloc ?_ _)); refine blk_far ?_ NB111_110.out _; (with_reducible repeat (first | refine blk_drewN ?_ _ | refine blk_drew ?_ | refine blk_alloc ?_ _)); refine blk_far ?_ NB111_110.out _; (with_reducible repeat (first | refine blk_drewN ?_ _ | refine blk_drew ?_ | refine blk_alloc ?_ _)); exact BK111.out) hb); have n3_ := Aside0.mk (below_step (by repeat (first | (with_reducible first | exact HB.out | apply below_alloc | apply pw_below_drewN | apply below_drew1 | refine below_set ?_ GE103.out | refine below_set ?_ GE110.out | refine below_set ?_ GE111.out) | exact HB.out)) hb); have n4_ := Aside0.mk (hbox); have n5_ := Aside0.mk ((by rw [hg]; exact (below_size (by repeat (first | (with_reducible first | exact HB.out | apply below_alloc | apply pw_below_drewN | apply below_drew1 | refine below_set ?_ GE103.out | refine below_set ?_ GE110.out | refine below_set ?_ GE111.out) | exact HB.out))) : w.heap.size ≤ gb112)); have n6_ := Aside0.mk ((by rw [hg]; exact (below_size (by repeat (first | (with_reducible first | exact HB.out | apply below_alloc | apply pw_below_drewN | apply below_drew1 | refine below_set ?_ GE103.out | refine below_set ?_ GE110.out | refine below_set ?_ GE111.out) | exact HB.out))) : w.heap.size ≤ gb112)); have n7_ := Aside0.mk ((by rw [hg]; exact Nat.ne_of_lt (blk_lt (g := gb103) (o := .cells #[.int .i64 0, .int .i64 0] 23 (0, 0)) (by (with_reducible repeat (first | refine blk_drewN ?_ _ | refine blk_drew ?_ | refine blk_alloc ?_ _)); refine blk_far ?_ NB103_111.out _; (with_reducible repeat (first | refine blk_drewN ?_ _ | refine blk_drew ?_ | refine blk_alloc ?_ _)); refine blk_far ?_ NB103_111.out _; (with_reducible repeat (first | refine blk_drewN ?_ _ | refine blk_drew ?_ | refine blk_alloc ?_ _)); refine blk_far ?_ NB103_110.out _; (with_reducible repeat (first | refine blk_drewN ?_ _ | refine blk_drew ?_ | refine blk_alloc ?_ _)); refine blk_far ?_ NB103_110.out _; (with_reducible repeat (first | refine blk_drewN ?_ _ | refine blk_drew ?_ | refine blk_alloc ?_ _)); exact BK103.out)) : gb103 ≠ gb112)); have n8_ := Aside0.mk ((by rw [hg]; exact Nat.ne_of_gt (blk_lt (g := gb103) (o := .cells #[.int .i64 0, .int .i64 0] 23 (0, 0)) (by (with_reducible repeat (first | refine blk_drewN ?_ _ | refine blk_drew ?_ | refine blk_alloc ?_ _)); refine blk_far ?_ NB103_111.out _; (with_reducible repeat (first | refine blk_drewN ?_ _ | refine blk_drew ?_ | refine blk_alloc ?_ _)); refine blk_far ?_ NB103_111.out _; (with_reducible repeat (first | refine blk_drewN ?_ _ | refine blk_drew ?_ | refine blk_alloc ?_ _)); refine blk_far ?_ NB103_110.out _; (with_reducible repeat (first | refine blk_drewN ?_ _ | refine blk_drew ?_ | refine blk_alloc ?_ _)); refine blk_far ?_ NB103_110.out _; (with_reducible repeat (first | refine blk_drewN ?_ _ | refine blk_drew ?_ | refine blk_alloc ?_ _)); exact BK103.out)) : gb112 ≠ gb103)); have n9_ := Aside0.mk ((by rw [hg]; exact Nat.ne_of_lt (blk_lt (g := gb110) (o := .cells #[.int .i64 t106, .int .i64 t107] 23 (0, 0)) (by (with_reducible repeat (first | refine blk_drewN ?_ _ | refine blk_drew ?_ | refine blk_alloc ?_ _)); refine blk_far ?_ NB110_111.out _; (with_reducible repeat (first | refine blk_drewN ?_ _ | refine blk_drew ?_ | refine blk_alloc ?_ _)); refine blk_far ?_ NB110_111.out _; (with_reducible repeat (first | refine blk_drewN ?_ _ | refine blk_drew ?_ | refine blk_alloc ?_ _)); refine blk_put (cs := #[.int .i64 t106, .int .i64 0]) ?_ 1 _ rfl; (with_reducible repeat (first | refine blk_drewN ?_ _ | refine blk_drew ?_ | refine blk_alloc ?_ _)); refine blk_put (cs := #[.int .i64 0, .int .i64 0]) ?_ 0 _ rfl; (with_reducible repeat (first | refine blk_drewN ?_ _ | refine blk_drew ?_ | refine blk_alloc ?_ _)); exact BK110.out)) : gb110 ≠ gb112)); have n10_ := Aside0.mk ((by rw [hg]; exact Nat.ne_of_gt (blk_lt (g := gb110) (o := .cells #[.int .i64 t106, .int .i64 t107] 23 (0, 0)) (by (with_reducible repeat (first | refine blk_drewN ?_ _ | refine blk_drew ?_ | refine blk_alloc ?_ _)); refine blk_far ?_ NB110_111.out _; (with_reducible repeat (first | refine blk_drewN ?_ _ | refine blk_drew ?_ | refine blk_alloc ?_ _)); refine blk_far ?_ NB110_111.out _; (with_reducible repeat (first | refine blk_drewN ?_ _ | refine blk_drew ?_ | refine blk_alloc ?_ _)); refine blk_put (cs := #[.int .i64 t106, .int .i64 0]) ?_ 1 _ rfl; (with_reducible repeat (first | refine blk_drewN ?_ _ | refine blk_drew ?_ | refine blk_alloc ?_ _)); refine blk_put (cs := #[.int .i64 0, .int .i64 0]) ?_ 0 _ rfl; (with_reducible repeat (first | refine blk_drewN ?_ _ | refine blk_drew ?_ | refine blk_alloc ?_ _)); exact BK110.out)) : gb112 ≠ gb110)); have n11_ := Aside0.mk ((by rw [hg]; exact Nat.ne_of_lt (blk_lt (g := gb111) (o := .cells #[.int .i64 t108, .int .i64 t109] 23 (0, 0)) (by (with_reducible repeat (first | refine blk_drewN ?_ _ | refine blk_drew ?_ | refine blk_alloc ?_ _)); refine blk_put (cs := #[.int .i64 t108, .int .i64 0]) ?_ 1 _ rfl; (with_reducible repeat (first | refine blk_drewN ?_ _ | refine blk_drew ?_ | refine blk_alloc ?_ _)); refine blk_put (cs := #[.int .i64 0, .int .i64 0]) ?_ 0 _ rfl; (with_reducible repeat (first | refine blk_drewN ?_ _ | refine blk_drew ?_ | refine blk_alloc ?_ _)); refine blk_far ?_ NB111_110.out _; (with_reducible repeat (first | refine blk_drewN ?_ _ | refine blk_drew ?_ | refine blk_alloc ?_ _)); refine blk_far ?_ NB111_110.out _; (with_reducible repeat (first | refine blk_drewN ?_ _ | refine blk_drew ?_ | refine blk_alloc ?_ _)); exact BK111.out)) : gb111 ≠ gb112)); have n12_ := Aside0.mk ((by rw [hg]; exact Nat.ne_of_gt (blk_lt (g := gb111) (o := .cells #[.int .i64 t108, .int .i64 t109] 23 (0, 0)) (by (with_reducible repeat (first | refine blk_drewN ?_ _ | refine blk_drew ?_ | refine blk_alloc ?_ _)); refine blk_put (cs := #[.int .i64 t108, .int .i64 0]) ?_ 1 _ rfl; (with_reducible repeat (first | refine blk_drewN ?_ _ | refine blk_drew ?_ | refine blk_alloc ?_ _)); refine blk_put (cs := #[.int .i64 0, .int .i64 0]) ?_ 0 _ rfl; (with_reducible repeat (first | refine blk_drewN ?_ _ | refine blk_drew ?_ | refine blk_alloc ?_ _)); refine blk_far ?_ NB111_110.out _; (with_reducible repeat (first | refine blk_drewN ?_ _ | refine blk_drew ?_ | refine blk_alloc ?_ _)); refine blk_far ?_ NB111_110.out _; (with_reducible repeat (first | refine blk_drewN ?_ _ | refine blk_drew ?_ | refine blk_alloc ?_ _)); exact BK111.out)) : gb112 ≠ gb111)); clear BK103; clear BK110; clear BK111; clear HB; have BK103 := n0_; have BK110 := n1_; have BK111 := n2_; have HB := n3_; have BK112 := n4_; have GW112 := n5_; have GE112 := n6_; have NB103_112 := n7_; have NB112_103 := n8_; have NB110_112 := n9_; have NB112_110 := n10_; have NB111_112 := n11_; have NB112_111 := n12_; clear n0_ n1_ n2_ n3_ n4_ n5_ n6_ n7_ n8_ n9_ n10_ n11_ n12_; clear hb hbox hg; have hnb74 := NB112_103.out; have hnc74 := NB103_112.out; have hnb75 := NB112_110.out; have hnc75 := NB110_112.out; have hnb76 := NB112_111.out; have hnc76 := NB111_112.out; have hcz77_0 : w73.cell? ⟨gb112, 0, none⟩ = some (.int .i64 0) := (blk_cell BK112.out 0).trans rfl; have hcz77_1 : w73.cell? ⟨gb112, 1, none⟩ = some (.int .i64 0) := (blk_cell BK112.out 1).trans rfl; have hfz77_0 := blk_frozen BK112.out 0; have hfz77_1 := blk_frozen BK112.out 1; have hcz78_0 : w73.cell? ⟨gb103, 0, none⟩ = some (.int .i64 0) := (blk_cell BK103.out 0).trans rfl; have hcz78_1 : w73.cell? ⟨gb103, 1, none⟩ = some (.int .i64 0) := (blk_cell BK103.out 1).trans rfl; have hfz78_0 := blk_frozen BK103.out 0; have hfz78_1 := blk_frozen BK103.out 1))
            refine bodyPost_ret (results_ct rfl _ _ gb103 23 #[.int .i64 (wrap64 (t106 + (wrap64 (t104 * t107)))), .int .i64 t107] (0, 0) _ rfl (by (with_reducible repeat (first | refine blk_drewN ?_ _ | refine blk_drew ?_ | refine blk_alloc ?_ _)); refine blk_put (cs := #[.int .i64 (wrap64 (t106 + (wrap64 (t104 * t107)))), .int .i64 0]) ?_ 1 _ rfl; (with_reducible repeat (first | refine blk_drewN ?_ _ | refine blk_drew ?_ | refine blk_alloc ?_ _)); refine blk_put (cs := #[.int .i64 0, .int .i64 0]) ?_ 0 _ rfl; (with_reducible repeat (first | refine blk_drewN ?_ _ | refine blk_drew ?_ | refine blk_alloc ?_ _)); refine blk_far ?_ NB103_112.out _; (with_reducible repeat (first | refine blk_drewN ?_ _ | refine blk_drew ?_ | refine blk_alloc ?_ _)); refine blk_far ?_ NB103_112.out _; (with_reducible repeat (first | refine blk_drewN ?_ _ | refine blk_drew ?_ | refine blk_alloc ?_ _)); refine blk_far ?_ NB103_112.out _; (with_reducible repeat (first | refine blk_drewN ?_ _ | refine blk_drew ?_ | refine blk_alloc ?_ _)); exact BK103.out) Tryz.underlying23 rfl (by kernel_rfl)) rfl ?_
            exact ⟨by first | rfl | (simp [errW_none, errW_some] <;> rfl) | (simp [*, errW_none, errW_some] <;> rfl), by repeat (first | (with_reducible first | exact HB.out | apply below_alloc | apply pw_below_drewN | apply below_drew1 | refine below_set ?_ GE103.out | refine below_set ?_ GE110.out | refine below_set ?_ GE111.out | refine below_set ?_ GE112.out) | exact HB.out)⟩
end Go.Proofs.YtdjnneflpkllmaaGreatDoor.Q

namespace Go.Proofs.Num
open Go.RowKit Go.Proofs.YtdjnneflpkllmaaGreatDoorW.PrintLast Go.Proofs.YtdjnneflpkllmaaGreatDoorW.PrintWords Go.Proofs.YtdjnneflpkllmaaGreatDoor.Q
set_option linter.unusedVariables false
set_option linter.unusedSimpArgs false
theorem best_alive (w : World) : Calls Tryz.prog 20 #[.int .i64 355, .int .i64 113, .int .i64 10] w fun e w' => e = .returned (.tuple #[.agg #[.int .i64 22, .int .i64 7], .int .i64 0]) ∧ Below w.heap.size w w' :=
  num_Best.calls 30 355 113 10 22 7 0 w (by kernel_rfl)
theorem valid_alive (w : World) : Calls Tryz.prog 16 #[.agg #[.int .i64 22, .int .i64 7]] w fun e w' => e = .returned (.bool true) ∧ Below w.heap.size w w' :=
  num_Valid.calls 30 22 7 true w (by kernel_rfl)
theorem decimal_alive (w : World) (hE : Env w) : Calls Tryz.prog 10 #[.int .i64 (-5), .int .i64 2] w fun e w' => e = .returned (.tuple #[.string ⟨#[45, 48, 46, 48, 53]⟩, .int .i64 0]) ∧ Below w.heap.size w w' := by
  have h := decimal_any (n := -5) (by decide) (by decide) 2 w hE
  have e : decV (-5) 2 = ([45, 48, 46, 48, 53], 0) := by
    have d : Lib.decDigits 5 = [53] := by rw [Lib.decDigits_one (by decide)]; rfl
    unfold decV
    rw [if_neg (by decide)]
    unfold decS
    rw [show ((-5 : Int).natAbs) = 5 from rfl, d]
    rfl
  rw [e] at h
  exact h
set_option maxRecDepth 100000 in
set_option maxHeartbeats 3200000 in
theorem alive_any (w : World) (hE : Env w) : Calls Tryz.prog 5 #[] w fun e w' => e = .returned (.bool true) ∧ Below w.heap.size w w' := by
  have hb0 : Below w.heap.size w (w.alloc (.cells #[.int .i64 3, .int .i64 3, .int .i64 1] 3)) := (Below.refl _ _).alloc (Nat.le_refl _) _
  have hh0 : (w.alloc (.cells #[.int .i64 3, .int .i64 3, .int .i64 1] 3)).heap[w.heap.size]? = some (.cells #[.int .i64 3, .int .i64 3, .int .i64 1] 3 (0, 0)) := by show (w.heap.push _)[w.heap.size]? = _; simp
  have AP := apportion_alive w.heap.size (w.alloc (.cells #[.int .i64 3, .int .i64 3, .int .i64 1] 3)) (by simp) ((blk_cell hh0 0).trans rfl) ((blk_cell hh0 1).trans rfl) ((blk_cell hh0 2).trans rfl)
  have HA := Lib.hid AP
  have HB0 := Lib.hid hb0
  clear AP hb0 hh0
  go_enter Tryz.func5, Tryz.ntmps5
  go_upto_region 3 with (first
    | (go_at_call 19; refine HA.out.mono ?_; rintro e w1 ⟨p, rfl, hp, y0, y1, y2, hb1⟩; have HY0 := Lib.hid y0; have HY1 := Lib.hid y1; have HY2 := Lib.hid y2; clear y0 y1 y2)
    | (go_at_call 20; refine (best_alive _).mono ?_; rintro e w2 ⟨rfl, hb2⟩))
  have hz2 : p < w2.heap.size := Nat.lt_of_lt_of_le hp hb2.size
  have y0 := (hb2.cell (p := ⟨p, 0, none⟩) hp).trans HY0.out
  have y1 := (hb2.cell (p := ⟨p, 1, none⟩) hp).trans HY1.out
  have y2 := (hb2.cell (p := ⟨p, 2, none⟩) hp).trans HY2.out
  have hbw : Below w.heap.size w w2 := (HB0.out.trans (hb1.mono (by simp))).trans (hb2.mono (HB0.out.trans (hb1.mono (by simp))).size)
  have hF : (w2.alloc (.cells #[.int .i64 22, .int .i64 7] 23)).heap[w2.heap.size]? = some (.cells #[.int .i64 22, .int .i64 7] 23 (0, 0)) := by show (w2.heap.push _)[w2.heap.size]? = _; simp
  have hbF : Below w2.heap.size w2 (w2.alloc (.cells #[.int .i64 22, .int .i64 7] 23)) := (Below.refl _ _).alloc (Nat.le_refl _) _
  have hsF : (w2.alloc (.cells #[.int .i64 22, .int .i64 7] 23)).heap.size = w2.heap.size + 1 := by simp
  clear hb1 hb2 hp HY0 HY1 HY2 HB0 HA
  generalize w2.alloc (.cells #[.int .i64 22, .int .i64 7] 23) = W at hF hbF hsF ⊢
  have SAME : ∀ w3, Below W.heap.size W w3 → Calls Tryz.prog 18 #[.slice (some ⟨p, 0, none⟩) 3 3, .slice (some ⟨w3.heap.size, 0, none⟩) 3 3] (w3.alloc (.cells #[.int .i64 4, .int .i64 4, .int .i64 2] 3)) fun e w' => e = .returned (.bool true) ∧ ∃ n, w' = (w3.alloc (.cells #[.int .i64 4, .int .i64 4, .int .i64 2] 3)).drewN n := by
    intro w3 h3
    have hh : (w3.alloc (.cells #[.int .i64 4, .int .i64 4, .int .i64 2] 3)).heap[w3.heap.size]? = some (.cells #[.int .i64 4, .int .i64 4, .int .i64 2] 3 (0, 0)) := by show (w3.heap.push _)[w3.heap.size]? = _; simp
    have hb : Below w2.heap.size w2 (w3.alloc (.cells #[.int .i64 4, .int .i64 4, .int .i64 2] 3)) := hbF.trans ((h3.alloc h3.size _).mono (by omega))
    exact same_alive _ _ _ ((hb.cell (p := ⟨p, 0, none⟩) hz2).trans y0) ((hb.cell (p := ⟨p, 1, none⟩) hz2).trans y1) ((hb.cell (p := ⟨p, 2, none⟩) hz2).trans y2) ((blk_cell hh 0).trans rfl) ((blk_cell hh 1).trans rfl) ((blk_cell hh 2).trans rfl)
  have FR : ∀ w3, Below W.heap.size W w3 → w3.cell? ⟨w2.heap.size, 0, none⟩ = some (.int .i64 22) ∧ w3.cell? ⟨w2.heap.size, 1, none⟩ = some (.int .i64 7) ∧ w2.heap.size < w3.heap.size := by
    intro w3 h3
    have hh := (h3.block w2.heap.size (by omega)).trans hF
    exact ⟨(blk_cell hh 0).trans rfl, (blk_cell hh 1).trans rfl, by have := h3.size; omega⟩
  have HS := Lib.hid SAME
  have HFR := Lib.hid FR
  have HW := Lib.hid (hbw.trans (hbF.mono hbw.size))
  have HWs : w.heap.size ≤ W.heap.size := HW.out.size
  have HEW := Lib.hid (hE.below HW.out)
  clear SAME FR hF hbF hsF y0 y1 y2 hz2 hbw
  go_wp2_with (first
    | (go_at_call 10; refine (decimal_alive _ HEW.out).mono ?_; rintro e w3 ⟨rfl, hb3⟩; obtain ⟨f0, f1, f2⟩ := HFR.out w3 hb3; have hb3' := Lib.hid hb3; clear hb3)
    | (go_at_call 18; refine (HS.out w3 hb3'.out).mono ?_; rintro e w4 ⟨rfl, n, rfl⟩)
    | (go_at_call 16; refine (valid_alive _).mono ?_; rintro e w5 ⟨rfl, hb5⟩))
  go_ret
  have h1 := hb3'.out.size
  have hX : w.heap.size ≤ ((w3.alloc (.cells #[.int .i64 4, .int .i64 4, .int .i64 2] 3)).drewN n).heap.size := by
    show w.heap.size ≤ (w3.alloc _).heap.size
    simp
    omega
  exact ⟨rfl, HW.out.trans ((below_draws ((hb3'.out.alloc hb3'.out.size _).mono HWs) n).trans (hb5.mono hX))⟩
end Go.Proofs.Num

namespace Go.Proofs.Num
open Go.RowKit Go.Proofs.YtdjnneflpkllmaaGreatDoorW.PrintWords Go.Proofs.YtdjnneflpkllmaaGreatDoorW.PrintLast Go.Proofs.YtdjnneflpkllmaaGreatDoorW.PrintMore Go.Proofs.YtdjnneflpkllmaaGreatDoor.Q
set_option linter.unusedVariables false
set_option linter.unusedSimpArgs false
theorem said_cut {a b : List UInt8} (h : (47 : UInt8) ∉ a) {n d : Int} (hv : valid n d) (t : txt n d = a ++ 47 :: b) : a = Lib.itoa n ∧ b = Lib.itoa d := by
  unfold txt at t
  by_cases c : d = 1
  · rw [if_pos c] at t
    exact (itoa_47 n (by rw [t]; simp)).elim
  · rw [if_neg c] at t
    obtain ⟨x, y⟩ := cut_uniq (itoa_47 n) h t
    exact ⟨x.symm, y.symm⟩
theorem said_whole {a : List UInt8} (h : (47 : UInt8) ∉ a) {n d : Int} (hv : valid n d) (t : txt n d = a) : d = 1 ∧ a = Lib.itoa n := by
  unfold txt at t
  by_cases c : d = 1
  · rw [if_pos c] at t
    exact ⟨c, t.symm⟩
  · rw [if_neg c] at t
    exact (h (by rw [← t]; simp)).elim
theorem valid_64 {n d : Int} (h : valid n d) : (-9223372036854775808 ≤ n ∧ n ≤ 9223372036854775807) ∧ (-9223372036854775808 ≤ d ∧ d ≤ 9223372036854775807) := by
  obtain ⟨h1, h2, h3, h4, -⟩ := h
  omega
set_option maxHeartbeats 6400000 in
set_option maxRecDepth 100000 in
theorem parse_whole {l : List UInt8} (hl : l.length ≤ 1000000) (hn : (47 : UInt8) ∉ l) (w : World) (hE : Env w) : Calls Tryz.prog 8 #[.string (ba l)] w fun e w' => ∃ v : Int × Int × Int, e = .returned (.tuple #[.agg #[.int .i64 v.1, .int .i64 v.2.1], .int .i64 v.2.2]) ∧ ParseSaid l v ∧ Below w.heap.size w w' := by
  have hcut := cut_miss hn
  have HE := Aside0.mk hE
  have K1 : Aside0 (∀ y, Below w.heap.size w y → Calls Tryz.prog 24 #[.string (ba l), .string ⟨#[47]⟩] y fun e w' => e = .returned (.tuple #[.string (ba l), .string (ba []), .bool false]) ∧ Below y.heap.size y w') := ⟨fun y hy => by
    have h := cut_c l 47 hl y (hE.below hy)
    rw [hcut] at h
    exact h⟩
  have K2 : Aside0 (∀ y, Below w.heap.size w y → Calls Tryz.prog 25 #[.string (ba l)] y _) := ⟨fun y hy => atoi_c l (by omega) y (hE.below hy)⟩
  have HB0 : Aside0 (Below w.heap.size w (w.alloc (.cells #[.int .i64 0, .int .i64 0] 23))) := ⟨(Below.refl _ _).alloc (Nat.le_refl _) _⟩
  clear hE hcut
  go_enter Tryz.func8, Tryz.ntmps8
  go_upto_region 4 with (first
    | (go_at_call 24; with_reducible refine (K1.out _ HB0.out).mono ?_; rintro e y1 ⟨rfl, hb⟩; have HB1 := Aside0.mk (below_step HB0.out hb); have HX := Aside0.mk (show w.heap.size + 1 ≤ y1.heap.size by have := hb.size; simpa using this); have HY1 := Aside0.mk (blk_below (blk_new w (.cells #[.int .i64 0, .int .i64 0] 23)) hb); clear hb)
    | (go_at_call 25; with_reducible refine (K2.out _ HB1.out).mono ?_; rintro e y2 ⟨x, ev, rfl, hb, hx⟩; have HB2 := Aside0.mk (below_step HB1.out hb); have HX := Aside0.mk (show w.heap.size + 1 ≤ y2.heap.size from Nat.le_trans HX.out hb.size); have HY := Aside0.mk (blk_below HY1.out hb); clear hb))
  obtain ⟨g, hg⟩ : ∃ g, g = y2.heap.size := ⟨_, rfl⟩
  obtain ⟨r, hr⟩ : ∃ r, r = w.heap.size := ⟨_, rfl⟩
  have hrg : r < g := by have := HX.out; omega
  have HR0 : (y2.alloc (Obj.cells #[Value.int IntKind.i64 x, Value.int IntKind.i64 1] 23)).heap[r]? = some (.cells #[.int .i64 0, .int .i64 0] 23 (0, 0)) := by
    rw [Below.heap_alloc y2 _ r (by rw [← hg]; exact hrg), hr]
    exact HY.out
  have HG0 : (y2.alloc (Obj.cells #[Value.int IntKind.i64 x, Value.int IntKind.i64 1] 23)).heap[g]? = some (.cells #[.int .i64 x, .int .i64 1] 23 (0, 0)) := by
    rw [hg]
    exact blk_new _ _
  have HW0 : Below w.heap.size w (y2.alloc (Obj.cells #[Value.int IntKind.i64 x, Value.int IntKind.i64 1] 23)) := HB2.out.alloc HB2.out.size _
  rw [← hg, ← hr]
  generalize y2.alloc (Obj.cells #[Value.int IntKind.i64 x, Value.int IntKind.i64 1] 23) = W at HR0 HG0 HW0 ⊢
  have HR := Aside0.mk HR0
  have HG := Aside0.mk HG0
  have HW := Aside0.mk HW0
  have GR := Aside0.mk (show w.heap.size ≤ r by omega)
  have ne1 : r ≠ g := by omega
  have ne2 : g ≠ r := by omega
  have GG := Aside0.mk (show w.heap.size ≤ g by omega)
  have KT : Aside0 (Calls Tryz.prog 6 #[.agg #[.int .i64 x, .int .i64 1]] W fun e w' => e = .returned (.tuple #[.string (ba (if valid x 1 then txt x 1 else [])), .int .i64 (if valid x 1 then 0 else 2)]) ∧ Below W.heap.size W w') := ⟨text_any x 1 W (HE.out.below HW.out)⟩
  have x0 := (blk_cell HG.out 0).trans rfl
  have x1 := (blk_cell HG.out 1).trans rfl
  clear HR0 HG0 HW0 hg hr hrg HX HY HB2 HB1 HB0 K1 K2 ne1 ne2
  rcases hx with ⟨ha, rfl⟩ | ⟨ha, N, rfl⟩
  · by_cases hv : valid x 1
    · rw [if_pos hv, if_pos hv] at KT
      by_cases ht : txt x 1 = l
      · rw [ht] at KT
        have SAID : Aside0 (ParseSaid l (x, 1, 0)) := ⟨ParseSaid.found hv ht⟩
        clear ha hv ht
        go_wp2_with (first | (go_at_call 6; with_reducible refine KT.out.mono ?_; rintro e y ⟨rfl, hb⟩; have HY := Aside0.mk (below_step HW.out hb); have m0 := (blk_cell (blk_below HR.out hb) 0).trans rfl; have m1 := (blk_cell (blk_below HR.out hb) 1).trans rfl; have f0 := blk_frozen (blk_below HR.out hb) 0; have f1 := blk_frozen (blk_below HR.out hb) 1; have MR := Aside0.mk (blk_below HR.out hb); have g0 := (blk_cell (blk_below HG.out hb) 0).trans rfl; have g1 := (blk_cell (blk_below HG.out hb) 1).trans rfl; clear hb x0 x1))
        all_goals (refine bodyPost_ret (results_ct rfl _ _ r 23 #[.int .i64 (x), .int .i64 (1)] (0, 0) _ rfl (blk_put (cs := #[.int .i64 (x), .int .i64 0]) (blk_put (cs := #[.int .i64 0, .int .i64 0]) MR.out 0 _ rfl) 1 _ rfl) Tryz.underlying23 rfl (by kernel_rfl)) rfl ?_; first | exact ⟨(x, 1, 0), rfl, SAID.out, (HY.out.setCell (p := ⟨r, 0, none⟩) GR.out _).setCell (p := ⟨r, 1, none⟩) GR.out _⟩ | exact ⟨x, 1, 0, rfl, SAID.out, (HY.out.setCell (p := ⟨r, 0, none⟩) GR.out _).setCell (p := ⟨r, 1, none⟩) GR.out _⟩)
      · have SAID : Aside0 (ParseSaid l (0, 0, 6)) := ⟨ParseSaid.none (fun n d hv t => by
          obtain ⟨rfl, e⟩ := said_whole hn hv t
          obtain ⟨⟨b1, b2⟩, -⟩ := valid_64 hv
          rw [e, atoi_itoa b1 b2] at ha
          injection ha with ha
          subst ha
          exact ht t)⟩
        obtain ⟨T, hT⟩ : ∃ T, T = ba (txt x 1) := ⟨_, rfl⟩
        rw [← hT] at KT
        have q1 : ¬ (T.toList = (ba l).toList) := fun h => ht (by rw [hT, ba_toList, ba_toList] at h; exact h)
        have q2 : (T.toList == (ba l).toList) = false := beq_eq_false_iff_ne.mpr q1
        clear ha hv ht hT
        go_wp2_with (first | (go_at_call 6; with_reducible refine KT.out.mono ?_; rintro e y ⟨rfl, hb⟩; have HY := Aside0.mk (below_step HW.out hb); have m0 := (blk_cell (blk_below HR.out hb) 0).trans rfl; have m1 := (blk_cell (blk_below HR.out hb) 1).trans rfl; have f0 := blk_frozen (blk_below HR.out hb) 0; have f1 := blk_frozen (blk_below HR.out hb) 1; have MR := Aside0.mk (blk_below HR.out hb); have g0 := (blk_cell (blk_below HG.out hb) 0).trans rfl; have g1 := (blk_cell (blk_below HG.out hb) 1).trans rfl; clear hb x0 x1))
        all_goals (refine bodyPost_ret (results_ct rfl _ _ r 23 #[.int .i64 (0), .int .i64 (0)] (0, 0) _ rfl (blk_put (cs := #[.int .i64 (0), .int .i64 0]) (blk_put (cs := #[.int .i64 0, .int .i64 0]) MR.out 0 _ rfl) 1 _ rfl) Tryz.underlying23 rfl (by kernel_rfl)) rfl ?_; first | exact ⟨(0, 0, 6), rfl, SAID.out, (HY.out.setCell (p := ⟨r, 0, none⟩) GR.out _).setCell (p := ⟨r, 1, none⟩) GR.out _⟩ | exact ⟨0, 0, 6, rfl, SAID.out, (HY.out.setCell (p := ⟨r, 0, none⟩) GR.out _).setCell (p := ⟨r, 1, none⟩) GR.out _⟩)
    · rw [if_neg hv, if_neg hv] at KT
      have SAID : Aside0 (ParseSaid l (0, 0, 6)) := ⟨ParseSaid.none (fun n d hv2 t => by
        obtain ⟨rfl, e⟩ := said_whole hn hv2 t
        obtain ⟨⟨b1, b2⟩, -⟩ := valid_64 hv2
        rw [e, atoi_itoa b1 b2] at ha
        injection ha with ha
        subst ha
        exact hv hv2)⟩
      clear ha hv
      go_wp2_with (first | (go_at_call 6; with_reducible refine KT.out.mono ?_; rintro e y ⟨rfl, hb⟩; have HY := Aside0.mk (below_step HW.out hb); have m0 := (blk_cell (blk_below HR.out hb) 0).trans rfl; have m1 := (blk_cell (blk_below HR.out hb) 1).trans rfl; have f0 := blk_frozen (blk_below HR.out hb) 0; have f1 := blk_frozen (blk_below HR.out hb) 1; have MR := Aside0.mk (blk_below HR.out hb); have g0 := (blk_cell (blk_below HG.out hb) 0).trans rfl; have g1 := (blk_cell (blk_below HG.out hb) 1).trans rfl; clear hb x0 x1))
      all_goals (refine bodyPost_ret (results_ct rfl _ _ r 23 #[.int .i64 (0), .int .i64 (0)] (0, 0) _ rfl (blk_put (cs := #[.int .i64 (0), .int .i64 0]) (blk_put (cs := #[.int .i64 0, .int .i64 0]) MR.out 0 _ rfl) 1 _ rfl) Tryz.underlying23 rfl (by kernel_rfl)) rfl ?_; first | exact ⟨(0, 0, 6), rfl, SAID.out, (HY.out.setCell (p := ⟨r, 0, none⟩) GR.out _).setCell (p := ⟨r, 1, none⟩) GR.out _⟩ | exact ⟨0, 0, 6, rfl, SAID.out, (HY.out.setCell (p := ⟨r, 0, none⟩) GR.out _).setCell (p := ⟨r, 1, none⟩) GR.out _⟩)
  · have SAID : Aside0 (ParseSaid l (0, 0, 6)) := ⟨ParseSaid.none (fun n d hv t => by
      obtain ⟨-, e⟩ := said_whole hn hv t
      rw [e] at ha
      obtain ⟨⟨b1, b2⟩, -⟩ := valid_64 hv
      exact ha n (atoi_itoa b1 b2))⟩
    clear ha
    go_wp2_with (first | (go_at_call 6; with_reducible refine KT.out.mono ?_; rintro e y ⟨rfl, hb⟩; have HY := Aside0.mk (below_step HW.out hb); have m0 := (blk_cell (blk_below HR.out hb) 0).trans rfl; have m1 := (blk_cell (blk_below HR.out hb) 1).trans rfl; have f0 := blk_frozen (blk_below HR.out hb) 0; have f1 := blk_frozen (blk_below HR.out hb) 1; have MR := Aside0.mk (blk_below HR.out hb); have g0 := (blk_cell (blk_below HG.out hb) 0).trans rfl; have g1 := (blk_cell (blk_below HG.out hb) 1).trans rfl; clear hb x0 x1))
    all_goals (refine bodyPost_ret (results_ct rfl _ _ r 23 #[.int .i64 (0), .int .i64 (0)] (0, 0) _ rfl (blk_put (cs := #[.int .i64 (0), .int .i64 0]) (blk_put (cs := #[.int .i64 0, .int .i64 0]) MR.out 0 _ rfl) 1 _ rfl) Tryz.underlying23 rfl (by kernel_rfl)) rfl ?_; first | exact ⟨(0, 0, 6), rfl, SAID.out, (HY.out.setCell (p := ⟨r, 0, none⟩) GR.out _).setCell (p := ⟨r, 1, none⟩) GR.out _⟩ | exact ⟨0, 0, 6, rfl, SAID.out, (HY.out.setCell (p := ⟨r, 0, none⟩) GR.out _).setCell (p := ⟨r, 1, none⟩) GR.out _⟩)
set_option maxHeartbeats 6400000 in
set_option maxRecDepth 100000 in
theorem parse_cut {l a b : List UInt8} (hl : l.length ≤ 1000000) (hn : (47 : UInt8) ∉ a) (hab : l = a ++ 47 :: b) (w : World) (hE : Env w) : Calls Tryz.prog 8 #[.string (ba l)] w fun e w' => ∃ v : Int × Int × Int, e = .returned (.tuple #[.agg #[.int .i64 v.1, .int .i64 v.2.1], .int .i64 v.2.2]) ∧ ParseSaid l v ∧ Below w.heap.size w w' := by
  have hcut : Lib.cut l [47] = (a, b, true) := by rw [hab]; exact cut_hit hn
  have hla : a.length ≤ 1000000 ∧ b.length ≤ 1000000 := by rw [hab] at hl; simp at hl; omega
  have HE := Aside0.mk hE
  have K1 : Aside0 (∀ y, Below w.heap.size w y → Calls Tryz.prog 24 #[.string (ba l), .string ⟨#[47]⟩] y fun e w' => e = .returned (.tuple #[.string (ba a), .string (ba b), .bool true]) ∧ Below y.heap.size y w') := ⟨fun y hy => by
    have h := cut_c l 47 hl y (hE.below hy)
    rw [hcut] at h
    exact h⟩
  have K2 : Aside0 (∀ y, Below w.heap.size w y → Calls Tryz.prog 25 #[.string (ba a)] y _) := ⟨fun y hy => atoi_c a (by omega) y (hE.below hy)⟩
  have HB0 : Aside0 (Below w.heap.size w (w.alloc (.cells #[.int .i64 0, .int .i64 0] 23))) := ⟨(Below.refl _ _).alloc (Nat.le_refl _) _⟩
  have K3 : Aside0 (∀ y, Below w.heap.size w y → Calls Tryz.prog 25 #[.string (ba b)] y _) := ⟨fun y hy => atoi_c b (by omega) y (hE.below hy)⟩
  have HAB := Aside0.mk hab
  clear hE hcut hla hab
  go_enter Tryz.func8, Tryz.ntmps8
  go_upto_region 4 with (first
    | (go_at_call 24; with_reducible refine (K1.out _ HB0.out).mono ?_; rintro e y1 ⟨rfl, hb⟩; have HB1 := Aside0.mk (below_step HB0.out hb); have HX := Aside0.mk (show w.heap.size + 1 ≤ y1.heap.size by have := hb.size; simpa using this); have HY1 := Aside0.mk (blk_below (blk_new w (.cells #[.int .i64 0, .int .i64 0] 23)) hb); clear hb)
    | (go_at_call 25; with_reducible refine (K2.out _ HB1.out).mono ?_; rintro e y2 ⟨x, ev, rfl, hb, hx⟩; have HB2 := Aside0.mk (below_step HB1.out hb); have HX := Aside0.mk (show w.heap.size + 1 ≤ y2.heap.size from Nat.le_trans HX.out hb.size); have HY := Aside0.mk (blk_below HY1.out hb); clear hb))
  obtain ⟨g, hg⟩ : ∃ g, g = y2.heap.size := ⟨_, rfl⟩
  obtain ⟨r, hr⟩ : ∃ r, r = w.heap.size := ⟨_, rfl⟩
  have hrg : r < g := by have := HX.out; omega
  have HR0 : (y2.alloc (Obj.cells #[Value.int IntKind.i64 x, Value.int IntKind.i64 1] 23)).heap[r]? = some (.cells #[.int .i64 0, .int .i64 0] 23 (0, 0)) := by
    rw [Below.heap_alloc y2 _ r (by rw [← hg]; exact hrg), hr]
    exact HY.out
  have HG0 : (y2.alloc (Obj.cells #[Value.int IntKind.i64 x, Value.int IntKind.i64 1] 23)).heap[g]? = some (.cells #[.int .i64 x, .int .i64 1] 23 (0, 0)) := by
    rw [hg]
    exact blk_new _ _
  have HW0 : Below w.heap.size w (y2.alloc (Obj.cells #[Value.int IntKind.i64 x, Value.int IntKind.i64 1] 23)) := HB2.out.alloc HB2.out.size _
  rw [← hg, ← hr]
  generalize y2.alloc (Obj.cells #[Value.int IntKind.i64 x, Value.int IntKind.i64 1] 23) = W at HR0 HG0 HW0 ⊢
  have HR := Aside0.mk HR0
  have HG := Aside0.mk HG0
  have HW := Aside0.mk HW0
  have GR := Aside0.mk (show w.heap.size ≤ r by omega)
  have ne1 : r ≠ g := by omega
  have ne2 : g ≠ r := by omega
  have GG := Aside0.mk (show w.heap.size ≤ g by omega)
  clear HR0 HG0 HW0 hg hr hrg HX HY HB2 HB1 HB0 K1 K2
  go_upto_region 6 with (first
    | (go_at_call 25; with_reducible refine (K3.out _ HW.out).mono ?_; rintro e y3 ⟨z, ev2, rfl, hb, hz⟩; have HV := Aside0.mk (below_step HW.out hb); have HR := Aside0.mk (blk_below HR.out hb); have HG := Aside0.mk (blk_below HG.out hb); clear hb))
  rcases hz with ⟨hb, rfl⟩ | ⟨hb, N2, rfl⟩
  · have x0 := (blk_cell HG.out 0).trans rfl
    have x1 := (blk_cell HG.out 1).trans rfl
    have f1 := blk_frozen HG.out 1
    go_upto_region 9 with (fail)
    have HR0 := blk_far (p := ⟨g, 1, none⟩) HR.out ne1 (.int .i64 z)
    have HG0 := blk_put (cs := #[.int .i64 x, .int .i64 1]) HG.out 1 (.int .i64 z) rfl
    have HW0 := HV.out.setCell (p := ⟨g, 1, none⟩) GG.out (.int .i64 z)
    clear HR HG HW HV x0 x1 f1
    generalize y3.setCell ⟨g, 1, none⟩ (.int .i64 z) = V at HR0 HG0 HW0 ⊢
    have HR := Aside0.mk HR0
    have HG : Aside0 (V.heap[g]? = some (.cells #[.int .i64 x, .int .i64 z] 23 (0, 0))) := ⟨HG0⟩
    have HW := Aside0.mk HW0
    have KT : Aside0 (Calls Tryz.prog 6 #[.agg #[.int .i64 x, .int .i64 z]] V fun e w' => e = .returned (.tuple #[.string (ba (if valid x z then txt x z else [])), .int .i64 (if valid x z then 0 else 2)]) ∧ Below V.heap.size V w') := ⟨text_any x z V (HE.out.below HW.out)⟩
    have x0 := (blk_cell HG.out 0).trans rfl
    have x1 := (blk_cell HG.out 1).trans rfl
    clear HR0 HG0 HW0 ne1 ne2
    rcases hx with ⟨ha, rfl⟩ | ⟨ha, N, rfl⟩
    · by_cases hv : valid x z
      · rw [if_pos hv, if_pos hv] at KT
        by_cases ht : txt x z = l
        · rw [ht] at KT
          have SAID : Aside0 (ParseSaid l (x, z, 0)) := ⟨ParseSaid.found hv ht⟩
          clear ha hv ht
          go_wp2_with (first | (go_at_call 6; with_reducible refine KT.out.mono ?_; rintro e y ⟨rfl, hb⟩; have HY := Aside0.mk (below_step HW.out hb); have m0 := (blk_cell (blk_below HR.out hb) 0).trans rfl; have m1 := (blk_cell (blk_below HR.out hb) 1).trans rfl; have f0 := blk_frozen (blk_below HR.out hb) 0; have f1 := blk_frozen (blk_below HR.out hb) 1; have MR := Aside0.mk (blk_below HR.out hb); have g0 := (blk_cell (blk_below HG.out hb) 0).trans rfl; have g1 := (blk_cell (blk_below HG.out hb) 1).trans rfl; clear hb x0 x1))
          all_goals (refine bodyPost_ret (results_ct rfl _ _ r 23 #[.int .i64 (x), .int .i64 (z)] (0, 0) _ rfl (blk_put (cs := #[.int .i64 (x), .int .i64 0]) (blk_put (cs := #[.int .i64 0, .int .i64 0]) MR.out 0 _ rfl) 1 _ rfl) Tryz.underlying23 rfl (by kernel_rfl)) rfl ?_; first | exact ⟨(x, z, 0), rfl, SAID.out, (HY.out.setCell (p := ⟨r, 0, none⟩) GR.out _).setCell (p := ⟨r, 1, none⟩) GR.out _⟩ | exact ⟨x, z, 0, rfl, SAID.out, (HY.out.setCell (p := ⟨r, 0, none⟩) GR.out _).setCell (p := ⟨r, 1, none⟩) GR.out _⟩)
        · have SAID : Aside0 (ParseSaid l (0, 0, 6)) := ⟨ParseSaid.none (fun n d hv t => by
            rw [HAB.out] at t
            obtain ⟨e1, e2⟩ := said_cut hn hv t
            obtain ⟨⟨b1, b2⟩, b3, b4⟩ := valid_64 hv
            rw [e1, atoi_itoa b1 b2] at ha
            rw [e2, atoi_itoa b3 b4] at hb
            injection ha with ha
            injection hb with hb
            subst ha hb
            exact ht (by rw [HAB.out]; exact t))⟩
          obtain ⟨T, hT⟩ : ∃ T, T = ba (txt x z) := ⟨_, rfl⟩
          rw [← hT] at KT
          have q1 : ¬ (T.toList = (ba l).toList) := fun h => ht (by rw [hT, ba_toList, ba_toList] at h; exact h)
          have q2 : (T.toList == (ba l).toList) = false := beq_eq_false_iff_ne.mpr q1
          clear ha hv ht hT
          go_wp2_with (first | (go_at_call 6; with_reducible refine KT.out.mono ?_; rintro e y ⟨rfl, hb⟩; have HY := Aside0.mk (below_step HW.out hb); have m0 := (blk_cell (blk_below HR.out hb) 0).trans rfl; have m1 := (blk_cell (blk_below HR.out hb) 1).trans rfl; have f0 := blk_frozen (blk_below HR.out hb) 0; have f1 := blk_frozen (blk_below HR.out hb) 1; have MR := Aside0.mk (blk_below HR.out hb); have g0 := (blk_cell (blk_below HG.out hb) 0).trans rfl; have g1 := (blk_cell (blk_below HG.out hb) 1).trans rfl; clear hb x0 x1))
          all_goals (refine bodyPost_ret (results_ct rfl _ _ r 23 #[.int .i64 (0), .int .i64 (0)] (0, 0) _ rfl (blk_put (cs := #[.int .i64 (0), .int .i64 0]) (blk_put (cs := #[.int .i64 0, .int .i64 0]) MR.out 0 _ rfl) 1 _ rfl) Tryz.underlying23 rfl (by kernel_rfl)) rfl ?_; first | exact ⟨(0, 0, 6), rfl, SAID.out, (HY.out.setCell (p := ⟨r, 0, none⟩) GR.out _).setCell (p := ⟨r, 1, none⟩) GR.out _⟩ | exact ⟨0, 0, 6, rfl, SAID.out, (HY.out.setCell (p := ⟨r, 0, none⟩) GR.out _).setCell (p := ⟨r, 1, none⟩) GR.out _⟩)
      · rw [if_neg hv, if_neg hv] at KT
        have SAID : Aside0 (ParseSaid l (0, 0, 6)) := ⟨ParseSaid.none (fun n d hv2 t => by
          rw [HAB.out] at t
          obtain ⟨e1, e2⟩ := said_cut hn hv2 t
          obtain ⟨⟨b1, b2⟩, b3, b4⟩ := valid_64 hv2
          rw [e1, atoi_itoa b1 b2] at ha
          rw [e2, atoi_itoa b3 b4] at hb
          injection ha with ha
          injection hb with hb
          subst ha hb
          exact hv hv2)⟩
        clear ha hv
        go_wp2_with (first | (go_at_call 6; with_reducible refine KT.out.mono ?_; rintro e y ⟨rfl, hb⟩; have HY := Aside0.mk (below_step HW.out hb); have m0 := (blk_cell (blk_below HR.out hb) 0).trans rfl; have m1 := (blk_cell (blk_below HR.out hb) 1).trans rfl; have f0 := blk_frozen (blk_below HR.out hb) 0; have f1 := blk_frozen (blk_below HR.out hb) 1; have MR := Aside0.mk (blk_below HR.out hb); have g0 := (blk_cell (blk_below HG.out hb) 0).trans rfl; have g1 := (blk_cell (blk_below HG.out hb) 1).trans rfl; clear hb x0 x1))
        all_goals (refine bodyPost_ret (results_ct rfl _ _ r 23 #[.int .i64 (0), .int .i64 (0)] (0, 0) _ rfl (blk_put (cs := #[.int .i64 (0), .int .i64 0]) (blk_put (cs := #[.int .i64 0, .int .i64 0]) MR.out 0 _ rfl) 1 _ rfl) Tryz.underlying23 rfl (by kernel_rfl)) rfl ?_; first | exact ⟨(0, 0, 6), rfl, SAID.out, (HY.out.setCell (p := ⟨r, 0, none⟩) GR.out _).setCell (p := ⟨r, 1, none⟩) GR.out _⟩ | exact ⟨0, 0, 6, rfl, SAID.out, (HY.out.setCell (p := ⟨r, 0, none⟩) GR.out _).setCell (p := ⟨r, 1, none⟩) GR.out _⟩)
    · have SAID : Aside0 (ParseSaid l (0, 0, 6)) := ⟨ParseSaid.none (fun n d hv t => by
        rw [HAB.out] at t
        obtain ⟨e, -⟩ := said_cut hn hv t
        rw [e] at ha
        obtain ⟨⟨b1, b2⟩, -⟩ := valid_64 hv
        exact ha n (atoi_itoa b1 b2))⟩
      clear ha hb
      go_wp2_with (first | (go_at_call 6; with_reducible refine KT.out.mono ?_; rintro e y ⟨rfl, hb⟩; have HY := Aside0.mk (below_step HW.out hb); have m0 := (blk_cell (blk_below HR.out hb) 0).trans rfl; have m1 := (blk_cell (blk_below HR.out hb) 1).trans rfl; have f0 := blk_frozen (blk_below HR.out hb) 0; have f1 := blk_frozen (blk_below HR.out hb) 1; have MR := Aside0.mk (blk_below HR.out hb); have g0 := (blk_cell (blk_below HG.out hb) 0).trans rfl; have g1 := (blk_cell (blk_below HG.out hb) 1).trans rfl; clear hb x0 x1))
      all_goals (refine bodyPost_ret (results_ct rfl _ _ r 23 #[.int .i64 (0), .int .i64 (0)] (0, 0) _ rfl (blk_put (cs := #[.int .i64 (0), .int .i64 0]) (blk_put (cs := #[.int .i64 0, .int .i64 0]) MR.out 0 _ rfl) 1 _ rfl) Tryz.underlying23 rfl (by kernel_rfl)) rfl ?_; first | exact ⟨(0, 0, 6), rfl, SAID.out, (HY.out.setCell (p := ⟨r, 0, none⟩) GR.out _).setCell (p := ⟨r, 1, none⟩) GR.out _⟩ | exact ⟨0, 0, 6, rfl, SAID.out, (HY.out.setCell (p := ⟨r, 0, none⟩) GR.out _).setCell (p := ⟨r, 1, none⟩) GR.out _⟩)
  · have SAID : Aside0 (ParseSaid l (0, 0, 6)) := ⟨ParseSaid.none (fun n d hv t => by
      rw [HAB.out] at t
      obtain ⟨-, e⟩ := said_cut hn hv t
      rw [e] at hb
      obtain ⟨-, b1, b2⟩ := valid_64 hv
      exact hb d (atoi_itoa b1 b2))⟩
    have m0 := (blk_cell HR.out 0).trans rfl
    have m1 := (blk_cell HR.out 1).trans rfl
    have f0 := blk_frozen HR.out 0
    have f1 := blk_frozen HR.out 1
    have MR := HR
    clear hb hx
    go_wp2
    all_goals (refine bodyPost_ret (results_ct rfl _ _ r 23 #[.int .i64 0, .int .i64 0] (0, 0) _ rfl (blk_put (cs := #[.int .i64 0, .int .i64 0]) (blk_put (cs := #[.int .i64 0, .int .i64 0]) MR.out 0 _ rfl) 1 _ rfl) Tryz.underlying23 rfl (by kernel_rfl)) rfl ?_; first | exact ⟨(0, 0, 6), rfl, SAID.out, (HV.out.setCell (p := ⟨r, 0, none⟩) GR.out _).setCell (p := ⟨r, 1, none⟩) GR.out _⟩ | exact ⟨0, 0, 6, rfl, SAID.out, (HV.out.setCell (p := ⟨r, 0, none⟩) GR.out _).setCell (p := ⟨r, 1, none⟩) GR.out _⟩)
theorem parse_any {l : List UInt8} (hl : l.length ≤ 1000000) (w : World) (hE : Env w) : Calls Tryz.prog 8 #[.string (ba l)] w fun e w' => ∃ v : Int × Int × Int, e = .returned (.tuple #[.agg #[.int .i64 v.1, .int .i64 v.2.1], .int .i64 v.2.2]) ∧ ParseSaid l v ∧ Below w.heap.size w w' := by
  rcases cut_cases 47 l with ⟨a, b, h, e⟩ | h
  · exact parse_cut hl h e w hE
  · exact parse_whole hl h w hE
end Go.Proofs.Num

namespace Go.Proofs.Num
open Go.RowKit Go.Proofs.YtdjnneflpkllmaaGreatDoorW.PrintWords Go.Proofs.YtdjnneflpkllmaaGreatDoorW.PrintMore Go.Proofs.YtdjnneflpkllmaaGreatDoor.Q
set_option linter.unusedVariables false
set_option linter.unusedSimpArgs false
/-- The number that digits spell, behind n. -/
def natD : List UInt8 → Nat → Nat
  | [], n => n
  | c :: r, n => natD r (10 * n + (c.toNat - 48))
theorem natD_ge : ∀ (l : List UInt8) (n : Nat), n ≤ natD l n
  | [], n => Nat.le_refl _
  | c :: r, n => by
    have := natD_ge r (10 * n + (c.toNat - 48))
    rw [natD]; omega
theorem natD_drop : ∀ (l : List UInt8), natD (l.dropWhile (· == 48)) 0 = natD l 0
  | [] => rfl
  | c :: r => by
    by_cases h : (c == 48) = true
    · rw [show (List.dropWhile (· == 48) (c :: r)) = List.dropWhile (· == 48) r from List.dropWhile_cons_of_pos (p := (· == 48)) h, natD_drop r]
      have : c = 48 := by simpa using h
      subst this
      rfl
    · rw [show (List.dropWhile (· == 48) (c :: r)) = c :: r from List.dropWhile_cons_of_neg (p := (· == 48)) h]
theorem natD_pos : ∀ (l : List UInt8) (n : Nat), 0 < n → 0 < natD l n := fun l n h => Nat.lt_of_lt_of_le h (natD_ge l n)
theorem natD_zero {l : List UInt8} (hd : l.all isD = true) : natD l 0 = 0 ↔ l.dropWhile (· == 48) = [] := by
  induction l with
  | nil => simp [natD]
  | cons c r ih =>
    rw [List.all_cons, Bool.and_eq_true] at hd
    by_cases h : (c == 48) = true
    · rw [show (List.dropWhile (· == 48) (c :: r)) = List.dropWhile (· == 48) r from List.dropWhile_cons_of_pos (p := (· == 48)) h]
      have : c = 48 := by simpa using h
      subst this
      exact ih hd.2
    · rw [show (List.dropWhile (· == 48) (c :: r)) = c :: r from List.dropWhile_cons_of_neg (p := (· == 48)) h]
      have hc : c ≠ 48 := by simpa using h
      have h1 := isD_iff.1 hd.1
      have h2 : c.toNat ≠ 48 := fun g => hc (UInt8.toNat_inj.1 g)
      have p := natD_pos r (10 * 0 + (c.toNat - 48)) (by omega)
      rw [natD]
      constructor
      · intro g; omega
      · intro g; cases g
/-- The digits read as a uint64. -/
theorem pu_digits : ∀ (l : List UInt8) (n : Nat), l.all isD = true → n < 18446744073709551616 → Lib.parseUint10 n l = if natD l n < 18446744073709551616 then .ok (natD l n) else .range
  | [], n, _, hn => by rw [Lib.parseUint10, natD, if_pos hn]
  | c :: r, n, hd, hn => by
    rw [List.all_cons, Bool.and_eq_true] at hd
    have h1 := isD_iff.1 hd.1
    rw [Lib.parseUint10, if_pos h1, natD]
    have g := natD_ge r (10 * n + (c.toNat - 48))
    by_cases c1 : 1844674407370955162 ≤ n
    · rw [if_pos c1, if_neg (by omega)]
    · rw [if_neg c1]
      by_cases c2 : 18446744073709551616 ≤ n * 10 + (c.toNat - 48)
      · rw [if_pos c2, if_neg (by omega)]
      · rw [if_neg c2, pu_digits r _ hd.2 (by omega), Nat.mul_comm n 10]
theorem atoi_digits {l : List UInt8} (hd : l.all isD = true) (hn : l ≠ []) : (natD l 0 < 9223372036854775808 ∧ Lib.atoiAll l = .ok (natD l 0 : Int)) ∨ (9223372036854775808 ≤ natD l 0 ∧ ∀ v, Lib.atoiAll l ≠ .ok v) := by
  cases l with
  | nil => exact (hn rfl).elim
  | cons c r =>
    have hd2 := hd
    rw [List.all_cons, Bool.and_eq_true] at hd2
    have h1 := isD_iff.1 hd2.1
    rw [Lib.atoiAll_plain c r (by omega) (by omega)]
    have e : Lib.parseMag (c :: r) = if natD (c :: r) 0 < 18446744073709551616 then .ok (natD (c :: r) 0) else .range := by
      unfold Lib.parseMag
      rw [if_neg (by simp), pu_digits _ _ hd (by decide)]
    rw [e]
    by_cases c1 : natD (c :: r) 0 < 18446744073709551616
    · rw [if_pos c1]
      unfold Lib.signless
      simp only
      by_cases c2 : 9223372036854775808 ≤ natD (c :: r) 0
      · right
        rw [if_pos c2]
        exact ⟨c2, fun v g => by simp at g⟩
      · left
        rw [if_neg c2]
        exact ⟨by omega, rfl⟩
    · right
      rw [if_neg c1]
      refine ⟨by omega, fun v g => ?_⟩
      unfold Lib.signless at g
      simp at g
def negB (l : List UInt8) : Bool := decide (l.head? = some 45)
def rest (l : List UInt8) : List UInt8 := if l.head? = some 45 then l.drop 1 else l
def okP (r : List UInt8) (p : Nat) : Prop := (Lib.cut r [46]).2.2 = decide (0 < p) ∧ (Lib.cut r [46]).2.1.length = p ∧ ((Lib.cut r [46]).1 ++ (Lib.cut r [46]).2.1).all isD = true ∧ (Lib.cut r [46]).1 ≠ [] ∧ ¬ (1 < (Lib.cut r [46]).1.length ∧ (Lib.cut r [46]).1.head? = some 48)
instance (r : List UInt8) (p : Nat) : Decidable (okP r p) := by unfold okP; infer_instance
def digs (r : List UInt8) : List UInt8 := (Lib.cut r [46]).1 ++ (Lib.cut r [46]).2.1
/-- What both return. -/
def pdV (l : List UInt8) (p : Nat) : Int × Int :=
  if okP (rest l) p then
    (if natD (digs (rest l)) 0 = 0 then (if negB l then (0, 6) else (0, 0))
    else if 1125899906842624 < natD (digs (rest l)) 0 then (0, 4)
    else (if negB l then -(natD (digs (rest l)) 0 : Int) else (natD (digs (rest l)) 0 : Int), 0))
  else (0, 6)
theorem isD_46 : isD 46 = false := by decide
theorem no46 {l : List UInt8} (h : l.all isD = true) : (46 : UInt8) ∉ l := fun m => by
  have := List.all_eq_true.1 h 46 m
  rw [isD_46] at this
  cases this
end Go.Proofs.Num

namespace Go.Proofs.Num
open Go.RowKit Go.Proofs.YtdjnneflpkllmaaGreatDoorW.PrintWords Go.Proofs.YtdjnneflpkllmaaGreatDoorW.PrintMore Go.Proofs.YtdjnneflpkllmaaGreatDoor.Q
set_option linter.unusedVariables false
set_option linter.unusedSimpArgs false
end Go.Proofs.Num

namespace Go.Proofs.Num
open Go.RowKit Go.Proofs.YtdjnneflpkllmaaGreatDoorW.PrintWords Go.Proofs.YtdjnneflpkllmaaGreatDoorW.PrintLast Go.Proofs.YtdjnneflpkllmaaGreatDoorW.PrintMore Go.Proofs.YtdjnneflpkllmaaGreatDoor.Q
set_option linter.unusedVariables false
set_option linter.unusedSimpArgs false
def pdR (l : List UInt8) (p : Int) : Int × Int := if p < 0 ∨ 9 < p then (0, 2) else pdV l p.toNat
def isDec (l : List UInt8) : Bool := !l.isEmpty && l.all isD
set_option maxHeartbeats 3200000 in
set_option maxRecDepth 100000 in
theorem digits_any (s : ByteArray) (hs : s.size ≤ 1000000000) (w : World) : Calls Tryz.prog 31 #[.string s] w fun e w' => e = .returned (.bool (isDec s.data.toList)) ∧ Below w.heap.size w w' := by
  have ba0 : Aside0 (∀ i, Below w.heap.size w (w.iter s i)) := ⟨fun i => (Below.refl _ _).alloc (Nat.le_refl _) _⟩
  go_enter Tryz.func31, Tryz.ntmps31
  go_wp2
  go_loopg [4] s.size (fun kx v4 wr => ∃ i : Nat, wr = w.iter s i ∧ i ≤ s.size ∧ s.size - i ≤ kx ∧ ∀ j (h : j < s.size), j < i → isD s[j] = true)
  case atStart => exact ⟨0, rfl, Nat.zero_le _, by omega, fun j h g => by omega⟩
  case round =>
    obtain ⟨i, rfl, hin, hkx, hd⟩ := hrel
    by_cases hi : i < s.size
    · by_cases dg : isD s[i] = true
      · have d2 := isD_iff.1 dg
        have hnx := fun ty => run_next_ascii (P := Tryz.prog) w s i ty hi (by omega)
        have e1 : decide (((s[i].toNat : Nat) : Int) < 48) = false := decide_eq_false (by omega)
        have e2 : decide (((s[i].toNat : Nat) : Int) > 57) = false := decide_eq_false (by omega)
        have HD := Aside0.mk hd
        clear hd
        go_wp2
        go_roundg (s.size - (i + 1))
        case measure => omega
        case rel => exact ⟨i + 1, rfl, hi, Nat.le_refl _, fun j h g => by
          rcases Nat.lt_or_ge j i with q | q
          · exact HD.out j h q
          · obtain rfl : j = i := by omega
            exact dg⟩
      · have hall : isDec s.data.toList = false := by
          unfold isDec
          rw [Bool.and_eq_false_iff]
          right
          rw [List.all_eq_false]
          refine ⟨s[i], ?_, dg⟩
          have : s[i] = s.data.toList[i]'(by rw [Array.length_toList]; exact hi) := by rw [Array.getElem_toList]; rfl
          rw [this]
          exact List.getElem_mem _
        have HALL := Aside0.mk hall
        clear hall
        have hnx := fun ty => run_next_any (P := Tryz.prog) w s i ty hi
        have nr : ¬ (48 ≤ (Utf8.decode s i).1 ∧ (Utf8.decode s i).1 ≤ 57) := by
          by_cases ha : s[i].toNat < 128
          · rw [decode_ascii s i hi ha]
            exact fun g => dg (isD_iff.2 g)
          · have := (decode_high s i hi (by omega)).1
            omega
        obtain ⟨r, hr⟩ : ∃ r, r = (Utf8.decode s i).1 := ⟨_, rfl⟩
        rw [← hr] at nr hnx
        have B := ba0.out (i + (Utf8.decode s i).2)
        clear hd hr
        by_cases h1 : r < 48
        · have e1 : decide ((r : Int) < 48) = true := decide_eq_true (by omega)
          go_wp2
          go_ret
          exact ⟨by rw [HALL.out]; rfl, B⟩
        · have e1 : decide ((r : Int) < 48) = false := decide_eq_false (by omega)
          have e2 : decide ((r : Int) > 57) = true := decide_eq_true (by omega)
          go_wp2
          go_ret
          exact ⟨by rw [HALL.out]; rfl, B⟩
    · obtain rfl : i = s.size := by omega
      have hnx := fun ty => run_next_end (P := Tryz.prog) w s s.size ty hi
      have hall : isDec s.data.toList = !s.toList.isEmpty := by
        unfold isDec
        have : s.data.toList.all isD = true := List.all_eq_true.2 (fun x hx => by
          obtain ⟨j, hj, rfl⟩ := List.mem_iff_getElem.1 hx
          have hj2 : j < s.size := by rw [Array.length_toList] at hj; exact hj
          have := hd j hj2 hj2
          rw [Array.getElem_toList]
          exact this)
        rw [this, Bool.and_true, ByteArray.toList_eq]
      have HALL := Aside0.mk hall
      have B := ba0.out s.size
      clear hd hall
      go_wp2
      go_ret
      exact ⟨by rw [HALL.out]; rfl, B⟩
end Go.Proofs.Num

namespace Go.Proofs.Num
open Go.RowKit Go.Proofs.YtdjnneflpkllmaaGreatDoorW.PrintWords Go.Proofs.YtdjnneflpkllmaaGreatDoorW.PrintLast Go.Proofs.YtdjnneflpkllmaaGreatDoorW.PrintMore Go.Proofs.YtdjnneflpkllmaaGreatDoor.Q
set_option linter.unusedVariables false
set_option linter.unusedSimpArgs false
theorem prefix_neg (l : List UInt8) : Lib.hasPrefix l [45] = negB l ∧ Lib.trimPrefix l [45] = rest l := by
  have a : Lib.hasPrefix l [45] = negB l := by
    unfold Lib.hasPrefix negB
    cases l with
    | nil => rfl
    | cons c r =>
      simp only [List.isPrefixOf, List.head?_cons, Bool.and_true, Option.some.injEq]
      rw [Bool.eq_iff_iff, beq_iff_eq, decide_eq_true_iff]
      exact eq_comm
  refine ⟨a, ?_⟩
  unfold Lib.trimPrefix rest
  rw [a]
  unfold negB
  by_cases h : l.head? = some 45
  · rw [decide_eq_true h, if_pos rfl, if_pos h]; rfl
  · rw [decide_eq_false h, if_neg (by decide), if_neg h]
theorem cutp_c (l : List UInt8) (w : World) : Calls Tryz.prog 30 #[.string (ba l), .string ⟨#[45]⟩] w fun e w' => e = .returned (.tuple #[.string (ba (rest l)), .bool (negB l)]) ∧ w' = w := by
  refine (Tryz.strings_CutPrefix (ba l) ⟨#[45]⟩ w).mono ?_
  rintro e w' ⟨rfl, rfl⟩
  rw [ba_data, (prefix_neg l).1, (prefix_neg l).2]
  exact ⟨rfl, rfl⟩
theorem trim_c (l : List UInt8) (w : World) : Calls Tryz.prog 32 #[.string (ba l), .string ⟨#[48]⟩] w fun e w' => e = .returned (.string (ba (l.dropWhile (· == 48)))) ∧ w' = w := by
  refine (Tryz.strings_TrimLeft_one (ba l) 48 (by decide) w).mono ?_
  rintro e w' ⟨rfl, rfl⟩
  rw [ba_data]
  exact ⟨rfl, rfl⟩
theorem rest_len (l : List UInt8) : (rest l).length ≤ l.length := by
  unfold rest
  split
  · simp
  · exact Nat.le_refl _
theorem cut_len (r : List UInt8) : (Lib.cut r [46]).1.length + (Lib.cut r [46]).2.1.length ≤ r.length := by
  rcases cut_cases 46 r with ⟨a, b, h, rfl⟩ | h
  · rw [cut_hit h]; simp
  · rw [cut_miss h]; simp
theorem drop_len (l : List UInt8) : (l.dropWhile (· == 48)).length ≤ l.length := (List.dropWhile_sublist _).length_le
theorem digits_c (l : List UInt8) (hl : l.length ≤ 1000000) (w : World) : Calls Tryz.prog 31 #[.string (ba l)] w fun e w' => e = .returned (.bool (isDec l)) ∧ Below w.heap.size w w' := by
  have h := digits_any (ba l) (by rw [ba_size]; omega) w
  rw [ba_data] at h
  exact h
set_option maxHeartbeats 6400000 in
set_option maxRecDepth 100000 in
theorem pdec_bad {l : List UInt8} (hl : l.length ≤ 100000) {q : Nat} (hq : q ≤ 9) (w : World) (hE : Env w) (ok : ¬ okP (rest l) q) : Calls Tryz.prog 12 #[.string (ba l), .int .i64 (q : Int)] w fun e w' => e = .returned (.tuple #[.int .i64 (pdV l q).1, .int .i64 (pdV l q).2]) ∧ Below w.heap.size w w' := by
  rw [show pdV l q = (0, 6) by unfold pdV; rw [if_neg ok]]
  have HE := Aside0.mk hE
  have lr := rest_len l
  have lc := cut_len (rest l)
  obtain ⟨neg, hneg⟩ : ∃ n, n = negB l := ⟨_, rfl⟩
  obtain ⟨R, hR⟩ : ∃ r, r = rest l := ⟨_, rfl⟩
  have KP := cutp_c l
  unfold okP at ok
  rw [← hR] at lc ok KP
  rw [← hR] at lr
  rw [← hneg] at KP
  clear hneg hR
  have KC := fun y (hy : Below w.heap.size w y) => cut_c R 46 (by omega) y (hE.below hy)
  obtain ⟨⟨A, B, c⟩, hcut⟩ : ∃ v, v = Lib.cut R [46] := ⟨_, rfl⟩
  rw [← hcut] at lc KC ok
  simp only at lc KC ok
  clear hcut
  have KPP := Aside0.mk KP
  have KCC := Aside0.mk KC
  have n0 : decide ((q : Int) < 0) = false := decide_eq_false (by omega)
  have n9 : decide ((q : Int) > 9) = false := decide_eq_false (by omega)
  have HB0 := Aside0.mk (Below.refl w.heap.size w)
  have z1 : (ba A).size = A.length := ba_size A
  have z2 : (ba B).size = B.length := ba_size B
  have jn : ba A ++ ba B = ba (A ++ B) := ba_app A B
  have KD := Aside0.mk (fun y => digits_c (A ++ B) (by rw [List.length_append]; omega) y)
  have KT := Aside0.mk (fun y => trim_c (A ++ B) y)
  have lA : A.length + B.length ≤ 9223372036854775807 := by omega
  obtain ⟨s1, hs1⟩ : ∃ s, s = ba A := ⟨_, rfl⟩
  obtain ⟨s2, hs2⟩ : ∃ s, s = ba B := ⟨_, rfl⟩
  rw [← hs1, ← hs2] at jn KCC
  rw [← hs1] at z1
  rw [← hs2] at z2
  clear KP KC hE
  have main : ∀ (b : Bool), (b = decide ((q : Int) > 0)) → c = b → (¬ (B.length = q ∧ (A ++ B).all isD = true ∧ A ≠ [] ∧ ¬(1 < A.length ∧ A.head? = some 48))) → Calls Tryz.prog 12 #[.string (ba l), .int .i64 (q : Int)] w fun e w' => e = .returned (.tuple #[.int .i64 0, .int .i64 6]) ∧ Below w.heap.size w w' := by
    intro b hb hcb ok
    rw [← hcb] at hb
    clear hcb b
    have qd : (c != decide ((q : Int) > 0)) = false := by rw [← hb]; simp
    clear hb
    by_cases hB : B.length = q
    · have eB : ((B.length : Int) != (q : Int)) = false := by rw [hB]; simp
      cases hd : isDec (A ++ B) with
      | false =>
        rw [hd] at KD
        clear hd hB
        clear ok hs1 hs2 lr lc
        go_enter Tryz.func12, Tryz.ntmps12
        go_wp2_with (first
          | (go_at_call 30; with_reducible refine (KPP.out _).mono ?_; rintro e y1 ⟨rfl, rfl⟩)
          | (go_at_call 24; with_reducible refine (KCC.out _ HB0.out).mono ?_; rintro e y2 ⟨rfl, hb⟩; have HB2 := Aside0.mk hb; clear hb)
          | (go_at_call 31; with_reducible refine (KD.out _).mono ?_; rintro e y3 ⟨rfl, hb⟩; have HB3 := Aside0.mk (below_step HB2.out hb); clear hb))
        all_goals go_ret2
        all_goals first | exact ⟨rfl, HB3.out⟩ | exact ⟨rfl, HB2.out⟩
      | true =>
        rw [hd] at KD
        have all : (A ++ B).all isD = true := by unfold isDec at hd; rw [Bool.and_eq_true] at hd; exact hd.2
        clear hd
        by_cases hA : A = []
        · have eA : s1.toList.isEmpty = true := by rw [hs1, ba_toList, hA]; rfl
          have eA2 : (s1.toList == []) = true := by rw [hs1, ba_toList, hA]; rfl
          clear all hA hB
          clear ok hs1 hs2 lr lc
          go_enter Tryz.func12, Tryz.ntmps12
          go_wp2_with (first
            | (go_at_call 30; with_reducible refine (KPP.out _).mono ?_; rintro e y1 ⟨rfl, rfl⟩)
            | (go_at_call 24; with_reducible refine (KCC.out _ HB0.out).mono ?_; rintro e y2 ⟨rfl, hb⟩; have HB2 := Aside0.mk hb; clear hb)
            | (go_at_call 31; with_reducible refine (KD.out _).mono ?_; rintro e y3 ⟨rfl, hb⟩; have HB3 := Aside0.mk (below_step HB2.out hb); clear hb))
          all_goals go_ret2
          all_goals first | exact ⟨rfl, HB3.out⟩ | exact ⟨rfl, HB2.out⟩
        · have eA : s1.toList.isEmpty = false := by rw [hs1, ba_toList]; cases A with | nil => exact (hA rfl).elim | cons x y => rfl
          have eA2 : (s1.toList == []) = false := by rw [hs1, ba_toList]; cases A with | nil => exact (hA rfl).elim | cons x y => rfl
          have h6 : 1 < A.length ∧ A.head? = some 48 := Classical.byContradiction fun g => ok ⟨hB, all, hA, g⟩
          have d1 : decide ((A.length : Int) > 1) = true := decide_eq_true (by have := h6.1; omega)
          have p1 : 0 < A.length := by have := h6.1; omega
          have i0 : ∀ h : 0 < s1.size, s1[0]'h = 48 := fun h => by
            have := h6.2
            subst hs1
            have e : (ba A)[0]'h = A[0]'p1 := by show A.toArray[0]'(by simpa using p1) = _; simp
            rw [e]
            rw [List.head?_eq_getElem?, List.getElem?_eq_getElem p1] at this
            exact Option.some.inj this
          have p2 : 0 < s1.size := by omega
          have i1 := i0 p2
          clear all hA hB h6 i0
          clear ok hs1 hs2 lr lc
          go_enter Tryz.func12, Tryz.ntmps12
          go_wp2_with (first
            | (go_at_call 30; with_reducible refine (KPP.out _).mono ?_; rintro e y1 ⟨rfl, rfl⟩)
            | (go_at_call 24; with_reducible refine (KCC.out _ HB0.out).mono ?_; rintro e y2 ⟨rfl, hb⟩; have HB2 := Aside0.mk hb; clear hb)
            | (go_at_call 31; with_reducible refine (KD.out _).mono ?_; rintro e y3 ⟨rfl, hb⟩; have HB3 := Aside0.mk (below_step HB2.out hb); clear hb))
          all_goals go_ret2
          all_goals first | exact ⟨rfl, HB3.out⟩ | exact ⟨rfl, HB2.out⟩
    · have eB : ((B.length : Int) != (q : Int)) = true := by rw [bne_iff_ne]; omega
      clear hB
      clear ok hs1 hs2 lr lc
      go_enter Tryz.func12, Tryz.ntmps12
      go_wp2_with (first
        | (go_at_call 30; with_reducible refine (KPP.out _).mono ?_; rintro e y1 ⟨rfl, rfl⟩)
        | (go_at_call 24; with_reducible refine (KCC.out _ HB0.out).mono ?_; rintro e y2 ⟨rfl, hb⟩; have HB2 := Aside0.mk hb; clear hb)
        | (go_at_call 31; with_reducible refine (KD.out _).mono ?_; rintro e y3 ⟨rfl, hb⟩; have HB3 := Aside0.mk (below_step HB2.out hb); clear hb))
      all_goals go_ret2
      all_goals first | exact ⟨rfl, HB3.out⟩ | exact ⟨rfl, HB2.out⟩
  by_cases h0 : 0 < q
  · have qd : decide ((q : Int) > 0) = true := decide_eq_true (by omega)
    cases c with
    | true => exact main true qd.symm rfl (fun g => ok ⟨(decide_eq_true h0).symm, g⟩)
    | false =>
      clear main
      clear ok hs1 hs2 lr lc
      go_enter Tryz.func12, Tryz.ntmps12
      go_wp2_with (first
        | (go_at_call 30; with_reducible refine (KPP.out _).mono ?_; rintro e y1 ⟨rfl, rfl⟩)
        | (go_at_call 24; with_reducible refine (KCC.out _ HB0.out).mono ?_; rintro e y2 ⟨rfl, hb⟩; have HB2 := Aside0.mk hb; clear hb)
        | (go_at_call 31; with_reducible refine (KD.out _).mono ?_; rintro e y3 ⟨rfl, hb⟩; have HB3 := Aside0.mk (below_step HB2.out hb); clear hb))
      all_goals go_ret2
      all_goals first | exact ⟨rfl, HB3.out⟩ | exact ⟨rfl, HB2.out⟩
  · have qd : decide ((q : Int) > 0) = false := decide_eq_false (by omega)
    cases c with
    | false => exact main false qd.symm rfl (fun g => ok ⟨(decide_eq_false h0).symm, g⟩)
    | true =>
      clear main
      clear ok hs1 hs2 lr lc
      go_enter Tryz.func12, Tryz.ntmps12
      go_wp2_with (first
        | (go_at_call 30; with_reducible refine (KPP.out _).mono ?_; rintro e y1 ⟨rfl, rfl⟩)
        | (go_at_call 24; with_reducible refine (KCC.out _ HB0.out).mono ?_; rintro e y2 ⟨rfl, hb⟩; have HB2 := Aside0.mk hb; clear hb)
        | (go_at_call 31; with_reducible refine (KD.out _).mono ?_; rintro e y3 ⟨rfl, hb⟩; have HB3 := Aside0.mk (below_step HB2.out hb); clear hb))
      all_goals go_ret2
      all_goals first | exact ⟨rfl, HB3.out⟩ | exact ⟨rfl, HB2.out⟩
/-- The result where the shape is right. -/
def pdG (neg : Bool) (u : Nat) : Int × Int := if u = 0 then (if neg then (0, 6) else (0, 0)) else if 1125899906842624 < u then (0, 4) else (if neg then -(u : Int) else (u : Int), 0)
set_option maxHeartbeats 6400000 in
set_option maxRecDepth 100000 in
theorem pdec_good {l : List UInt8} (hl : l.length ≤ 100000) {q : Nat} (hq : q ≤ 9) (w : World) (hE : Env w) (ok : okP (rest l) q) : Calls Tryz.prog 12 #[.string (ba l), .int .i64 (q : Int)] w fun e w' => e = .returned (.tuple #[.int .i64 (pdV l q).1, .int .i64 (pdV l q).2]) ∧ Below w.heap.size w w' := by
  rw [show pdV l q = pdG (negB l) (natD (digs (rest l)) 0) by unfold pdV pdG; rw [if_pos ok]]
  have HE := Aside0.mk hE
  have lr := rest_len l
  have lc := cut_len (rest l)
  unfold digs
  obtain ⟨neg, hneg⟩ : ∃ n, n = negB l := ⟨_, rfl⟩
  obtain ⟨R, hR⟩ : ∃ r, r = rest l := ⟨_, rfl⟩
  have KP := cutp_c l
  unfold okP at ok
  rw [← hR] at lc ok KP
  rw [← hR] at lr ⊢
  rw [← hneg] at KP ⊢
  clear hneg hR
  have KC := fun y (hy : Below w.heap.size w y) => cut_c R 46 (by omega) y (hE.below hy)
  obtain ⟨⟨A, B, c⟩, hcut⟩ : ∃ v, v = Lib.cut R [46] := ⟨_, rfl⟩
  rw [← hcut] at lc KC ok ⊢
  simp only at lc KC ok ⊢
  clear hcut
  have KPP := Aside0.mk KP
  have KCC := Aside0.mk KC
  have n0 : decide ((q : Int) < 0) = false := decide_eq_false (by omega)
  have n9 : decide ((q : Int) > 9) = false := decide_eq_false (by omega)
  have HB0 := Aside0.mk (Below.refl w.heap.size w)
  have z1 : (ba A).size = A.length := ba_size A
  have z2 : (ba B).size = B.length := ba_size B
  have jn : ba A ++ ba B = ba (A ++ B) := ba_app A B
  have KD := Aside0.mk (fun y => digits_c (A ++ B) (by rw [List.length_append]; omega) y)
  have KT := Aside0.mk (fun y => trim_c (A ++ B) y)
  have lA : A.length + B.length ≤ 9223372036854775807 := by omega
  obtain ⟨s1, hs1⟩ : ∃ s, s = ba A := ⟨_, rfl⟩
  obtain ⟨s2, hs2⟩ : ∃ s, s = ba B := ⟨_, rfl⟩
  rw [← hs1, ← hs2] at jn KCC
  rw [← hs1] at z1
  rw [← hs2] at z2
  clear KP KC hE
  obtain ⟨o1, o2, o3, o4, o5⟩ := ok
  have qq : (c = true ∧ (0 : Int) < (q : Int)) ∨ (c = false ∧ ¬ (0 : Int) < (q : Int)) := by
    rw [o1]
    by_cases h : 0 < q
    · exact Or.inl ⟨decide_eq_true h, by omega⟩
    · exact Or.inr ⟨decide_eq_false h, by omega⟩
  have eB : ((q : Int) != (q : Int)) = false := by simp
  rw [o2] at z2 lA
  have dd : isDec (A ++ B) = true := by
    unfold isDec
    rw [o3, Bool.and_true]
    cases A with
    | nil => exact (o4 rfl).elim
    | cons x y => rfl
  rw [dd] at KD
  have eA : s1.toList.isEmpty = false := by rw [hs1, ba_toList]; cases A with | nil => exact (o4 rfl).elim | cons x y => rfl
  have eA2 : (s1.toList == []) = false := by rw [hs1, ba_toList]; cases A with | nil => exact (o4 rfl).elim | cons x y => rfl
  have p1 : 0 < A.length := List.length_pos_iff.2 o4
  have p2 : 0 < s1.size := by omega
  have i0 : ∀ h : 0 < s1.size, s1[0]'h = A[0]'p1 := fun h => by
    subst hs1
    show A.toArray[0]'(by simpa using p1) = _
    simp
  have i1 := i0 p2
  obtain ⟨x0, hx0⟩ : ∃ x, x = A[0]'p1 := ⟨_, rfl⟩
  rw [← hx0] at i1
  have i2 : 1 < A.length → ((x0.toNat : Int) == 48) = false ∧ (x0 == 48) = false := fun h => by
    have ne : x0 ≠ 48 := fun g => o5 ⟨h, by rw [List.head?_eq_getElem?, List.getElem?_eq_getElem p1, ← hx0, g]⟩
    refine ⟨?_, beq_eq_false_iff_ne.mpr ne⟩
    rw [beq_eq_false_iff_ne]
    intro g
    exact ne (UInt8.toNat_inj.1 (show x0.toNat = 48 by omega))
  have hu := natD_zero o3
  have hud := natD_drop (A ++ B)
  have ltr := drop_len (A ++ B)
  obtain ⟨T, hT⟩ : ∃ t, t = (A ++ B).dropWhile (· == 48) := ⟨_, rfl⟩
  rw [← hT] at KT hu hud ltr
  rw [List.length_append] at ltr
  have tD : T.all isD = true := by rw [hT]; exact List.all_eq_true.2 (fun x hx => List.all_eq_true.1 o3 x ((List.dropWhile_sublist _).subset hx))
  obtain ⟨u, hun⟩ : ∃ u, u = natD (A ++ B) 0 := ⟨_, rfl⟩
  rw [← hun] at hu hud ⊢
  clear hT hun dd o1 o3 o4 hx0 i0
  obtain ⟨D, hD⟩ : ∃ d, d = A ++ B := ⟨_, rfl⟩
  rw [← hD] at KD KT jn
  have hs2' := hs2
  clear hD o2 hs2 hs2'
  have body : (decide ((A.length : Int) > 1) = false ∨ (decide ((A.length : Int) > 1) = true ∧ ((x0.toNat : Int) == 48) = false ∧ (x0 == 48) = false)) := by
    by_cases h : 1 < A.length
    · exact Or.inr ⟨decide_eq_true (by omega), i2 h⟩
    · exact Or.inl (decide_eq_false (by omega))
  clear i2 o5
  unfold pdG
  by_cases hz : T = []
  · have u0 : u = 0 := hu.2 hz
    rw [hz] at KT
    rw [if_pos u0]
    have t1 : (ba []).toList.isEmpty = true := by rw [ba_toList]; rfl
    have t2 : ((ba []).toList == []) = true := by rw [ba_toList]; rfl
    obtain ⟨e0, he0⟩ : ∃ e, e = ba [] := ⟨_, rfl⟩
    rw [← he0] at KT t1 t2
    clear he0
    rcases body with d1 | ⟨d1, d2, d3⟩ <;> cases neg
    all_goals simp only [if_true, if_false, Bool.false_eq_true]
    · clear hs1 lr lc hz u0 hu hud ltr tD
      rcases qq with ⟨rfl, qd⟩ | ⟨rfl, qd⟩
      rotate_left
      obtain rfl : q = 0 := by omega
      clear qd
      rotate_left
      all_goals go_enter Tryz.func12, Tryz.ntmps12
      all_goals go_wp2_with (first
        | (go_at_call 30; with_reducible refine (KPP.out _).mono ?_; rintro e y1 ⟨rfl, rfl⟩)
        | (go_at_call 24; with_reducible refine (KCC.out _ HB0.out).mono ?_; rintro e y2 ⟨rfl, hb⟩; have HB2 := Aside0.mk hb; clear hb)
        | (go_at_call 31; with_reducible refine (KD.out _).mono ?_; rintro e y3 ⟨rfl, hb⟩; have HB3 := Aside0.mk (below_step HB2.out hb); clear hb)
        | (go_at_call 32; with_reducible refine (KT.out _).mono ?_; rintro e y4 ⟨rfl, rfl⟩))
      all_goals go_ret2
      all_goals first | exact ⟨rfl, HB5.out⟩ | exact ⟨rfl, HB3.out⟩ | exact ⟨by simp, HB5.out⟩
    · clear hs1 lr lc hz u0 hu hud ltr tD
      rcases qq with ⟨rfl, qd⟩ | ⟨rfl, qd⟩
      rotate_left
      obtain rfl : q = 0 := by omega
      clear qd
      rotate_left
      all_goals go_enter Tryz.func12, Tryz.ntmps12
      all_goals go_wp2_with (first
        | (go_at_call 30; with_reducible refine (KPP.out _).mono ?_; rintro e y1 ⟨rfl, rfl⟩)
        | (go_at_call 24; with_reducible refine (KCC.out _ HB0.out).mono ?_; rintro e y2 ⟨rfl, hb⟩; have HB2 := Aside0.mk hb; clear hb)
        | (go_at_call 31; with_reducible refine (KD.out _).mono ?_; rintro e y3 ⟨rfl, hb⟩; have HB3 := Aside0.mk (below_step HB2.out hb); clear hb)
        | (go_at_call 32; with_reducible refine (KT.out _).mono ?_; rintro e y4 ⟨rfl, rfl⟩))
      all_goals go_ret2
      all_goals first | exact ⟨rfl, HB5.out⟩ | exact ⟨rfl, HB3.out⟩ | exact ⟨by simp, HB5.out⟩
    · clear hs1 lr lc hz u0 hu hud ltr tD
      rcases qq with ⟨rfl, qd⟩ | ⟨rfl, qd⟩
      rotate_left
      obtain rfl : q = 0 := by omega
      clear qd
      rotate_left
      all_goals go_enter Tryz.func12, Tryz.ntmps12
      all_goals go_wp2_with (first
        | (go_at_call 30; with_reducible refine (KPP.out _).mono ?_; rintro e y1 ⟨rfl, rfl⟩)
        | (go_at_call 24; with_reducible refine (KCC.out _ HB0.out).mono ?_; rintro e y2 ⟨rfl, hb⟩; have HB2 := Aside0.mk hb; clear hb)
        | (go_at_call 31; with_reducible refine (KD.out _).mono ?_; rintro e y3 ⟨rfl, hb⟩; have HB3 := Aside0.mk (below_step HB2.out hb); clear hb)
        | (go_at_call 32; with_reducible refine (KT.out _).mono ?_; rintro e y4 ⟨rfl, rfl⟩))
      all_goals go_ret2
      all_goals first | exact ⟨rfl, HB5.out⟩ | exact ⟨rfl, HB3.out⟩ | exact ⟨by simp, HB5.out⟩
    · clear hs1 lr lc hz u0 hu hud ltr tD
      rcases qq with ⟨rfl, qd⟩ | ⟨rfl, qd⟩
      rotate_left
      obtain rfl : q = 0 := by omega
      clear qd
      rotate_left
      all_goals go_enter Tryz.func12, Tryz.ntmps12
      all_goals go_wp2_with (first
        | (go_at_call 30; with_reducible refine (KPP.out _).mono ?_; rintro e y1 ⟨rfl, rfl⟩)
        | (go_at_call 24; with_reducible refine (KCC.out _ HB0.out).mono ?_; rintro e y2 ⟨rfl, hb⟩; have HB2 := Aside0.mk hb; clear hb)
        | (go_at_call 31; with_reducible refine (KD.out _).mono ?_; rintro e y3 ⟨rfl, hb⟩; have HB3 := Aside0.mk (below_step HB2.out hb); clear hb)
        | (go_at_call 32; with_reducible refine (KT.out _).mono ?_; rintro e y4 ⟨rfl, rfl⟩))
      all_goals go_ret2
      all_goals first | exact ⟨rfl, HB5.out⟩ | exact ⟨rfl, HB3.out⟩ | exact ⟨by simp, HB5.out⟩
  · have u0 : ¬ u = 0 := fun g => hz (hu.1 g)
    rw [if_neg u0]
    have lT : T.length ≤ 1000000 := by omega
    have KJ := fun y (hy : Below w.heap.size w y) => atoi_c T lT y (HE.out.below hy)
    have t1 : (ba T).toList.isEmpty = false := by rw [ba_toList]; cases T with | nil => exact (hz rfl).elim | cons x y => rfl
    have t2 : ((ba T).toList == []) = false := by rw [ba_toList]; cases T with | nil => exact (hz rfl).elim | cons x y => rfl
    obtain ⟨e0, he0⟩ : ∃ e, e = ba T := ⟨_, rfl⟩
    rw [← he0] at KT t1 t2 KJ
    clear he0
    have AT := atoi_digits tD hz
    rw [hud] at AT
    rcases AT with ⟨a1, a2⟩ | ⟨a1, a2⟩
    · have KI : Aside0 (∀ y, Below w.heap.size w y → Calls Tryz.prog 25 #[.string e0] y fun e w' => e = .returned (.tuple #[.int .i64 (u : Int), .nilIface]) ∧ Below y.heap.size y w') := ⟨fun y hy => by
        refine (KJ y hy).mono ?_
        rintro e w' ⟨x, ev, rfl, hb, h | h⟩
        · rw [a2] at h
          obtain ⟨h1, rfl⟩ := h
          injection h1 with h1
          rw [← h1]
          exact ⟨rfl, hb⟩
        · exact (h.1 _ a2).elim⟩
      clear a2 KJ
      by_cases big : 1125899906842624 < u
      · rw [if_pos big]
        have b1 : decide ((u : Int) > 1125899906842624) = true := decide_eq_true (by omega)
        rcases body with d1 | ⟨d1, d2, d3⟩
        · clear hs1 lr lc hz u0 hu hud ltr tD lT big
          rcases qq with ⟨rfl, qd⟩ | ⟨rfl, qd⟩
          rotate_left
          obtain rfl : q = 0 := by omega
          clear qd
          rotate_left
          all_goals go_enter Tryz.func12, Tryz.ntmps12
          all_goals go_wp2_with (first
            | (go_at_call 30; with_reducible refine (KPP.out _).mono ?_; rintro e y1 ⟨rfl, rfl⟩)
            | (go_at_call 24; with_reducible refine (KCC.out _ HB0.out).mono ?_; rintro e y2 ⟨rfl, hb⟩; have HB2 := Aside0.mk hb; clear hb)
            | (go_at_call 31; with_reducible refine (KD.out _).mono ?_; rintro e y3 ⟨rfl, hb⟩; have HB3 := Aside0.mk (below_step HB2.out hb); clear hb)
            | (go_at_call 32; with_reducible refine (KT.out _).mono ?_; rintro e y4 ⟨rfl, rfl⟩)
            | (go_at_call 25; with_reducible refine (KI.out _ HB3.out).mono ?_; rintro e y5 ⟨rfl, hb⟩; have HB5 := Aside0.mk (below_step HB3.out hb); clear hb))
          all_goals go_ret2
          all_goals first | exact ⟨rfl, HB5.out⟩ | exact ⟨rfl, HB3.out⟩ | exact ⟨by simp, HB5.out⟩
        · clear hs1 lr lc hz u0 hu hud ltr tD lT big
          rcases qq with ⟨rfl, qd⟩ | ⟨rfl, qd⟩
          rotate_left
          obtain rfl : q = 0 := by omega
          clear qd
          rotate_left
          all_goals go_enter Tryz.func12, Tryz.ntmps12
          all_goals go_wp2_with (first
            | (go_at_call 30; with_reducible refine (KPP.out _).mono ?_; rintro e y1 ⟨rfl, rfl⟩)
            | (go_at_call 24; with_reducible refine (KCC.out _ HB0.out).mono ?_; rintro e y2 ⟨rfl, hb⟩; have HB2 := Aside0.mk hb; clear hb)
            | (go_at_call 31; with_reducible refine (KD.out _).mono ?_; rintro e y3 ⟨rfl, hb⟩; have HB3 := Aside0.mk (below_step HB2.out hb); clear hb)
            | (go_at_call 32; with_reducible refine (KT.out _).mono ?_; rintro e y4 ⟨rfl, rfl⟩)
            | (go_at_call 25; with_reducible refine (KI.out _ HB3.out).mono ?_; rintro e y5 ⟨rfl, hb⟩; have HB5 := Aside0.mk (below_step HB3.out hb); clear hb))
          all_goals go_ret2
          all_goals first | exact ⟨rfl, HB5.out⟩ | exact ⟨rfl, HB3.out⟩ | exact ⟨by simp, HB5.out⟩
      · rw [if_neg big]
        have b1 : decide ((u : Int) > 1125899906842624) = false := decide_eq_false (by omega)
        have b2 : -9223372036854775808 ≤ -(u : Int) ∧ -(u : Int) ≤ 9223372036854775807 := by omega
        rcases body with d1 | ⟨d1, d2, d3⟩ <;> cases neg
        all_goals simp only [if_true, if_false, Bool.false_eq_true]
        · clear hs1 lr lc hz u0 hu hud ltr tD lT
          rcases qq with ⟨rfl, qd⟩ | ⟨rfl, qd⟩
          rotate_left
          obtain rfl : q = 0 := by omega
          clear qd
          rotate_left
          all_goals go_enter Tryz.func12, Tryz.ntmps12
          all_goals go_wp2_with (first
            | (go_at_call 30; with_reducible refine (KPP.out _).mono ?_; rintro e y1 ⟨rfl, rfl⟩)
            | (go_at_call 24; with_reducible refine (KCC.out _ HB0.out).mono ?_; rintro e y2 ⟨rfl, hb⟩; have HB2 := Aside0.mk hb; clear hb)
            | (go_at_call 31; with_reducible refine (KD.out _).mono ?_; rintro e y3 ⟨rfl, hb⟩; have HB3 := Aside0.mk (below_step HB2.out hb); clear hb)
            | (go_at_call 32; with_reducible refine (KT.out _).mono ?_; rintro e y4 ⟨rfl, rfl⟩)
            | (go_at_call 25; with_reducible refine (KI.out _ HB3.out).mono ?_; rintro e y5 ⟨rfl, hb⟩; have HB5 := Aside0.mk (below_step HB3.out hb); clear hb))
          all_goals go_ret2
          all_goals first | exact ⟨rfl, HB5.out⟩ | exact ⟨rfl, HB3.out⟩ | exact ⟨by simp, HB5.out⟩
        · clear hs1 lr lc hz u0 hu hud ltr tD lT
          rcases qq with ⟨rfl, qd⟩ | ⟨rfl, qd⟩
          rotate_left
          obtain rfl : q = 0 := by omega
          clear qd
          rotate_left
          all_goals go_enter Tryz.func12, Tryz.ntmps12
          all_goals go_wp2_with (first
            | (go_at_call 30; with_reducible refine (KPP.out _).mono ?_; rintro e y1 ⟨rfl, rfl⟩)
            | (go_at_call 24; with_reducible refine (KCC.out _ HB0.out).mono ?_; rintro e y2 ⟨rfl, hb⟩; have HB2 := Aside0.mk hb; clear hb)
            | (go_at_call 31; with_reducible refine (KD.out _).mono ?_; rintro e y3 ⟨rfl, hb⟩; have HB3 := Aside0.mk (below_step HB2.out hb); clear hb)
            | (go_at_call 32; with_reducible refine (KT.out _).mono ?_; rintro e y4 ⟨rfl, rfl⟩)
            | (go_at_call 25; with_reducible refine (KI.out _ HB3.out).mono ?_; rintro e y5 ⟨rfl, hb⟩; have HB5 := Aside0.mk (below_step HB3.out hb); clear hb))
          all_goals go_ret2
          all_goals first | exact ⟨rfl, HB5.out⟩ | exact ⟨rfl, HB3.out⟩ | exact ⟨by simp, HB5.out⟩
        · clear hs1 lr lc hz u0 hu hud ltr tD lT
          rcases qq with ⟨rfl, qd⟩ | ⟨rfl, qd⟩
          rotate_left
          obtain rfl : q = 0 := by omega
          clear qd
          rotate_left
          all_goals go_enter Tryz.func12, Tryz.ntmps12
          all_goals go_wp2_with (first
            | (go_at_call 30; with_reducible refine (KPP.out _).mono ?_; rintro e y1 ⟨rfl, rfl⟩)
            | (go_at_call 24; with_reducible refine (KCC.out _ HB0.out).mono ?_; rintro e y2 ⟨rfl, hb⟩; have HB2 := Aside0.mk hb; clear hb)
            | (go_at_call 31; with_reducible refine (KD.out _).mono ?_; rintro e y3 ⟨rfl, hb⟩; have HB3 := Aside0.mk (below_step HB2.out hb); clear hb)
            | (go_at_call 32; with_reducible refine (KT.out _).mono ?_; rintro e y4 ⟨rfl, rfl⟩)
            | (go_at_call 25; with_reducible refine (KI.out _ HB3.out).mono ?_; rintro e y5 ⟨rfl, hb⟩; have HB5 := Aside0.mk (below_step HB3.out hb); clear hb))
          all_goals go_ret2
          all_goals first | exact ⟨rfl, HB5.out⟩ | exact ⟨rfl, HB3.out⟩ | exact ⟨by simp, HB5.out⟩
        · clear hs1 lr lc hz u0 hu hud ltr tD lT
          rcases qq with ⟨rfl, qd⟩ | ⟨rfl, qd⟩
          rotate_left
          obtain rfl : q = 0 := by omega
          clear qd
          rotate_left
          all_goals go_enter Tryz.func12, Tryz.ntmps12
          all_goals go_wp2_with (first
            | (go_at_call 30; with_reducible refine (KPP.out _).mono ?_; rintro e y1 ⟨rfl, rfl⟩)
            | (go_at_call 24; with_reducible refine (KCC.out _ HB0.out).mono ?_; rintro e y2 ⟨rfl, hb⟩; have HB2 := Aside0.mk hb; clear hb)
            | (go_at_call 31; with_reducible refine (KD.out _).mono ?_; rintro e y3 ⟨rfl, hb⟩; have HB3 := Aside0.mk (below_step HB2.out hb); clear hb)
            | (go_at_call 32; with_reducible refine (KT.out _).mono ?_; rintro e y4 ⟨rfl, rfl⟩)
            | (go_at_call 25; with_reducible refine (KI.out _ HB3.out).mono ?_; rintro e y5 ⟨rfl, hb⟩; have HB5 := Aside0.mk (below_step HB3.out hb); clear hb))
          all_goals go_ret2
          all_goals first | exact ⟨rfl, HB5.out⟩ | exact ⟨rfl, HB3.out⟩ | exact ⟨by simp, HB5.out⟩
    · rw [if_pos (show 1125899906842624 < u by omega)]
      have KI : Aside0 (∀ y, Below w.heap.size w y → Calls Tryz.prog 25 #[.string e0] y fun e w' => (∃ x N, e = .returned (.tuple #[.int .i64 x, .iface 104 (.pointer (some ⟨N, 0, none⟩))])) ∧ Below y.heap.size y w') := ⟨fun y hy => by
        refine (KJ y hy).mono ?_
        rintro e w' ⟨x, ev, rfl, hb, h | ⟨-, N, rfl⟩⟩
        · exact (a2 _ h.1).elim
        · exact ⟨⟨x, N, rfl⟩, hb⟩⟩
      clear a2 KJ
      rcases body with d1 | ⟨d1, d2, d3⟩
      · clear hs1 lr lc hz u0 hu hud ltr tD lT a1
        rcases qq with ⟨rfl, qd⟩ | ⟨rfl, qd⟩
        rotate_left
        obtain rfl : q = 0 := by omega
        clear qd
        rotate_left
        all_goals go_enter Tryz.func12, Tryz.ntmps12
        all_goals go_wp2_with (first
          | (go_at_call 30; with_reducible refine (KPP.out _).mono ?_; rintro e y1 ⟨rfl, rfl⟩)
          | (go_at_call 24; with_reducible refine (KCC.out _ HB0.out).mono ?_; rintro e y2 ⟨rfl, hb⟩; have HB2 := Aside0.mk hb; clear hb)
          | (go_at_call 31; with_reducible refine (KD.out _).mono ?_; rintro e y3 ⟨rfl, hb⟩; have HB3 := Aside0.mk (below_step HB2.out hb); clear hb)
          | (go_at_call 32; with_reducible refine (KT.out _).mono ?_; rintro e y4 ⟨rfl, rfl⟩)
          | (go_at_call 25; with_reducible refine (KI.out _ HB3.out).mono ?_; rintro e y5 ⟨⟨x5, N5, rfl⟩, hb⟩; have HB5 := Aside0.mk (below_step HB3.out hb); clear hb))
        all_goals go_ret2
        all_goals first | exact ⟨rfl, HB5.out⟩ | exact ⟨rfl, HB3.out⟩ | exact ⟨by simp, HB5.out⟩
      · clear hs1 lr lc hz u0 hu hud ltr tD lT a1
        rcases qq with ⟨rfl, qd⟩ | ⟨rfl, qd⟩
        rotate_left
        obtain rfl : q = 0 := by omega
        clear qd
        rotate_left
        all_goals go_enter Tryz.func12, Tryz.ntmps12
        all_goals go_wp2_with (first
          | (go_at_call 30; with_reducible refine (KPP.out _).mono ?_; rintro e y1 ⟨rfl, rfl⟩)
          | (go_at_call 24; with_reducible refine (KCC.out _ HB0.out).mono ?_; rintro e y2 ⟨rfl, hb⟩; have HB2 := Aside0.mk hb; clear hb)
          | (go_at_call 31; with_reducible refine (KD.out _).mono ?_; rintro e y3 ⟨rfl, hb⟩; have HB3 := Aside0.mk (below_step HB2.out hb); clear hb)
          | (go_at_call 32; with_reducible refine (KT.out _).mono ?_; rintro e y4 ⟨rfl, rfl⟩)
          | (go_at_call 25; with_reducible refine (KI.out _ HB3.out).mono ?_; rintro e y5 ⟨⟨x5, N5, rfl⟩, hb⟩; have HB5 := Aside0.mk (below_step HB3.out hb); clear hb))
        all_goals go_ret2
        all_goals first | exact ⟨rfl, HB5.out⟩ | exact ⟨rfl, HB3.out⟩ | exact ⟨by simp, HB5.out⟩
theorem pdec_any {l : List UInt8} (hl : l.length ≤ 100000) (p : Int) (w : World) (hE : Env w) : Calls Tryz.prog 12 #[.string (ba l), .int .i64 p] w fun e w' => e = .returned (.tuple #[.int .i64 (pdR l p).1, .int .i64 (pdR l p).2]) ∧ Below w.heap.size w w' := by
  unfold pdR
  by_cases c1 : p < 0
  · rw [if_pos (Or.inl c1)]
    clear hE
    go_enter Tryz.func12, Tryz.ntmps12
    go_wp2
    go_ret2
    exact ⟨rfl, Below.refl _ _⟩
  · by_cases c2 : p > 9
    · rw [if_pos (Or.inr c2)]
      clear hE
      have d1 : decide (p > 9) = true := decide_eq_true c2
      go_enter Tryz.func12, Tryz.ntmps12
      go_wp2
      go_ret2
      exact ⟨rfl, Below.refl _ _⟩
    · rw [if_neg (by omega)]
      obtain ⟨q, rfl⟩ : ∃ q : Nat, p = (q : Int) := ⟨p.toNat, by omega⟩
      rw [Int.toNat_natCast]
      by_cases ok : okP (rest l) q
      · exact pdec_good hl (by omega) w hE ok
      · exact pdec_bad hl (by omega) w hE ok
end Go.Proofs.Num

namespace Go.Proofs.YtdjnneflpkllmaaGreatDoor.Q
open Go.RowKit Go.Proofs.YtdjnneflpkllmaaGreatDoorW.PrintWords Go.Proofs.YtdjnneflpkllmaaGreatDoorW.PrintLast Go.Proofs.YtdjnneflpkllmaaGreatDoorW.PrintMore
attribute [local go_sem] max2_int min2_int max_two min_two max_three min_three max_four min_four   -- for this text's walks alone
set_option linter.unusedVariables false
set_option linter.unusedSimpArgs false
theorem eqA23 (d : Nat) (w : World) (x0 y0 : Int) (x1 y1 : Int) :
    (Op.equalIn (d + 2) 23 (.agg #[.int .i64 x0, .int .i64 x1]) (.agg #[.int .i64 y0, .int .i64 y1])).run Tryz.prog w = .ok (x0 == y0 && (x1 == y1)) w := by
  refine eqA_of Tryz.underlying23 (by kernel_rfl) ?_
  refine eqf_cons (by rfl) (by go_simp; rfl) (by go_simp; rfl) (by go_simp) ?_
  exact eqf_last (by rfl) (by go_simp; rfl) (by go_simp; rfl) (by go_simp)
end Go.Proofs.YtdjnneflpkllmaaGreatDoor.Q

namespace Go.Proofs.YtdjnneflpkllmaaGreatDoor.Q
open Go.RowKit Go.Proofs.YtdjnneflpkllmaaGreatDoorW.PrintWords Go.Proofs.YtdjnneflpkllmaaGreatDoorW.PrintLast Go.Proofs.YtdjnneflpkllmaaGreatDoorW.PrintMore
attribute [local go_sem] max2_int min2_int max_two min_two max_three min_three max_four min_four   -- for this text's walks alone
set_option linter.unusedVariables false
set_option linter.unusedSimpArgs false
def num_Path.l0 : Nat → List Int → Int → Int → Option (List Int × Int)
  | 0, _, _, _ => none
  | k + 1, x4, x5, x6 => if x6 = 0 then (some (x4, 0)) else ((num_down.f x5 x6).bind fun bt193 => (if x4.length < 17592186044416 then (num_Path.l0 k (x4 ++ [bt193.1]) x6 bt193.2) else (none)))
def num_Path.f (k : Nat) (a0_0 : Int) (a0_1 : Int) : Option (List Int × Int) := (num_Valid.f k a0_0 a0_1).bind fun t192 => (if t192 = true then (num_Path.l0 k ([] : List Int) a0_0 a0_1) else (some (([] : List Int), 2)))
set_option maxHeartbeats 8000000 in
set_option maxRecDepth 100000 in
theorem num_Path.calls (k : Nat) (a0_0 : Int) (a0_1 : Int) (r1 : List Int) (r2 : Int) (w : World) (h : num_Path.f k a0_0 a0_1 = some (r1, r2)) :
    Calls Tryz.prog 15 #[.agg #[.int .i64 a0_0, .int .i64 a0_1]] w fun e w' => ∃ v0_ : Value, e = .returned (.tuple #[v0_, .int .i64 r2]) ∧ Kd.R (Kd.int .i64) 3 w' w.heap.size (fun _ => True) v0_ r1 ∧ Below w.heap.size w w' := by
  have hu23 := Tryz.underlying23
  have HB := Aside0.mk (Below.refl w.heap.size w)
  have H : ((num_Valid.f k a0_0 a0_1).bind fun t192 => (if t192 = true then (num_Path.l0 k ([] : List Int) a0_0 a0_1) else (some (([] : List Int), 2)))) = some (r1, r2) := h
  clear h
  replace H := Option.bind_eq_some_iff.mp H
  obtain ⟨t192, A20, H⟩ := H
  replace H : (if t192 = true then (num_Path.l0 k ([] : List Int) a0_0 a0_1) else (some (([] : List Int), 2))) = some (r1, r2) := H
  have A2 := Aside0.mk A20
  clear A20
  by_cases c3 : t192 = true
  · subst c3
    have H1 : (num_Path.l0 k ([] : List Int) a0_0 a0_1) = some (r1, r2) := by rw [if_pos rfl] at H; exact H
    clear H
    have H := H1
    clear H1
    have H' := Aside0.mk H
    clear H
    go_enter Tryz.func15, Tryz.ntmps15
    go_wp2_with (first | ((with_reducible refine gate_dst (N := 1) rfl ?_); refine box_event ?hg (N := 1) ?hd (cs := #[.int .i64 a0_0, .int .i64 a0_1]) (t := 23) ?hr ?_; (case hd => rfl); (case hg => rfl); (case hr => first | (go_simp; done) | (go_simp; rfl)); intro gb191 hg w4 hbox hb; have n0_ := Aside0.mk (below_step (by repeat (first | (with_reducible first | exact HB.out | apply below_alloc | apply pw_below_drewN | apply below_drew1) | exact HB.out)) hb); have n1_ := Aside0.mk (hbox); have n2_ := Aside0.mk ((by rw [hg]; exact (below_size (by repeat (first | (with_reducible first | exact HB.out | apply below_alloc | apply pw_below_drewN | apply below_drew1) | exact HB.out))) : w.heap.size ≤ gb191)); have n3_ := Aside0.mk ((by rw [hg]; exact (below_size (by repeat (first | (with_reducible first | exact HB.out | apply below_alloc | apply pw_below_drewN | apply below_drew1) | exact HB.out))) : w.heap.size ≤ gb191)); clear HB; have HB := n0_; have BK191 := n1_; have GW191 := n2_; have GE191 := n3_; clear n0_ n1_ n2_ n3_; clear hb hbox hg; have hcz5_0 : w4.cell? ⟨gb191, 0, none⟩ = some (.int .i64 a0_0) := (blk_cell BK191.out 0).trans rfl; have hcz5_1 : w4.cell? ⟨gb191, 1, none⟩ = some (.int .i64 a0_1) := (blk_cell BK191.out 1).trans rfl; have hfz5_0 := blk_frozen BK191.out 0; have hfz5_1 := blk_frozen BK191.out 1) | (go_at_call 16; (with_reducible refine (num_Valid.calls k a0_0 a0_1 true _ A2.out).mono ?_); rintro e w6 ⟨rfl, hb⟩; have n0_ := Aside0.mk (blk_below (g := gb191) (o := .cells #[.int .i64 a0_0, .int .i64 a0_1] 23 (0, 0)) (by (with_reducible repeat (first | refine blk_drewN ?_ _ | refine blk_drew ?_ | refine blk_alloc ?_ _)); exact BK191.out) hb); have n1_ := Aside0.mk (below_step (by repeat (first | (with_reducible first | exact HB.out | apply below_alloc | apply pw_below_drewN | apply below_drew1 | refine below_set ?_ GE191.out) | exact HB.out)) hb); clear BK191; clear HB; have BK191 := n0_; have HB := n1_; clear n0_ n1_; (try clear hb); (try clear hb2); (try clear hk); (try clear hi); have hcz7_0 : w6.cell? ⟨gb191, 0, none⟩ = some (.int .i64 a0_0) := (blk_cell BK191.out 0).trans rfl; have hcz7_1 : w6.cell? ⟨gb191, 1, none⟩ = some (.int .i64 a0_1) := (blk_cell BK191.out 1).trans rfl; have hfz7_0 := blk_frozen BK191.out 0; have hfz7_1 := blk_frozen BK191.out 1))
    repeat (go_quiet (first | ((with_reducible refine gate_dst (N := 1) rfl ?_); refine box_event ?hg (N := 1) ?hd (cs := #[.int .i64 a0_0, .int .i64 a0_1]) (t := 23) ?hr ?_; (case hd => rfl); (case hg => rfl); (case hr => first | (go_simp; done) | (go_simp; rfl)); intro gb191 hg w4 hbox hb; have n0_ := Aside0.mk (below_step (by repeat (first | (with_reducible first | exact HB.out | apply below_alloc | apply pw_below_drewN | apply below_drew1) | exact HB.out)) hb); have n1_ := Aside0.mk (hbox); have n2_ := Aside0.mk ((by rw [hg]; exact (below_size (by repeat (first | (with_reducible first | exact HB.out | apply below_alloc | apply pw_below_drewN | apply below_drew1) | exact HB.out))) : w.heap.size ≤ gb191)); have n3_ := Aside0.mk ((by rw [hg]; exact (below_size (by repeat (first | (with_reducible first | exact HB.out | apply below_alloc | apply pw_below_drewN | apply below_drew1) | exact HB.out))) : w.heap.size ≤ gb191)); clear HB; have HB := n0_; have BK191 := n1_; have GW191 := n2_; have GE191 := n3_; clear n0_ n1_ n2_ n3_; clear hb hbox hg; have hcz5_0 : w4.cell? ⟨gb191, 0, none⟩ = some (.int .i64 a0_0) := (blk_cell BK191.out 0).trans rfl; have hcz5_1 : w4.cell? ⟨gb191, 1, none⟩ = some (.int .i64 a0_1) := (blk_cell BK191.out 1).trans rfl; have hfz5_0 := blk_frozen BK191.out 0; have hfz5_1 := blk_frozen BK191.out 1) | (go_at_call 16; (with_reducible refine (num_Valid.calls k a0_0 a0_1 true _ A2.out).mono ?_); rintro e w6 ⟨rfl, hb⟩; have n0_ := Aside0.mk (blk_below (g := gb191) (o := .cells #[.int .i64 a0_0, .int .i64 a0_1] 23 (0, 0)) (by (with_reducible repeat (first | refine blk_drewN ?_ _ | refine blk_drew ?_ | refine blk_alloc ?_ _)); exact BK191.out) hb); have n1_ := Aside0.mk (below_step (by repeat (first | (with_reducible first | exact HB.out | apply below_alloc | apply pw_below_drewN | apply below_drew1 | refine below_set ?_ GE191.out) | exact HB.out)) hb); clear BK191; clear HB; have BK191 := n0_; have HB := n1_; clear n0_ n1_; (try clear hb); (try clear hb2); (try clear hk); (try clear hi); have hcz7_0 : w6.cell? ⟨gb191, 0, none⟩ = some (.int .i64 a0_0) := (blk_cell BK191.out 0).trans rfl; have hcz7_1 : w6.cell? ⟨gb191, 1, none⟩ = some (.int .i64 a0_1) := (blk_cell BK191.out 1).trans rfl; have hfz7_0 := blk_frozen BK191.out 0; have hfz7_1 := blk_frozen BK191.out 1)); try go_wp2_with (first | ((with_reducible refine gate_dst (N := 1) rfl ?_); refine box_event ?hg (N := 1) ?hd (cs := #[.int .i64 a0_0, .int .i64 a0_1]) (t := 23) ?hr ?_; (case hd => rfl); (case hg => rfl); (case hr => first | (go_simp; done) | (go_simp; rfl)); intro gb191 hg w4 hbox hb; have n0_ := Aside0.mk (below_step (by repeat (first | (with_reducible first | exact HB.out | apply below_alloc | apply pw_below_drewN | apply below_drew1) | exact HB.out)) hb); have n1_ := Aside0.mk (hbox); have n2_ := Aside0.mk ((by rw [hg]; exact (below_size (by repeat (first | (with_reducible first | exact HB.out | apply below_alloc | apply pw_below_drewN | apply below_drew1) | exact HB.out))) : w.heap.size ≤ gb191)); have n3_ := Aside0.mk ((by rw [hg]; exact (below_size (by repeat (first | (with_reducible first | exact HB.out | apply below_alloc | apply pw_below_drewN | apply below_drew1) | exact HB.out))) : w.heap.size ≤ gb191)); clear HB; have HB := n0_; have BK191 := n1_; have GW191 := n2_; have GE191 := n3_; clear n0_ n1_ n2_ n3_; clear hb hbox hg; have hcz5_0 : w4.cell? ⟨gb191, 0, none⟩ = some (.int .i64 a0_0) := (blk_cell BK191.out 0).trans rfl; have hcz5_1 : w4.cell? ⟨gb191, 1, none⟩ = some (.int .i64 a0_1) := (blk_cell BK191.out 1).trans rfl; have hfz5_0 := blk_frozen BK191.out 0; have hfz5_1 := blk_frozen BK191.out 1) | (go_at_call 16; (with_reducible refine (num_Valid.calls k a0_0 a0_1 true _ A2.out).mono ?_); rintro e w6 ⟨rfl, hb⟩; have n0_ := Aside0.mk (blk_below (g := gb191) (o := .cells #[.int .i64 a0_0, .int .i64 a0_1] 23 (0, 0)) (by (with_reducible repeat (first | refine blk_drewN ?_ _ | refine blk_drew ?_ | refine blk_alloc ?_ _)); exact BK191.out) hb); have n1_ := Aside0.mk (below_step (by repeat (first | (with_reducible first | exact HB.out | apply below_alloc | apply pw_below_drewN | apply below_drew1 | refine below_set ?_ GE191.out) | exact HB.out)) hb); clear BK191; clear HB; have BK191 := n0_; have HB := n1_; clear n0_ n1_; (try clear hb); (try clear hb2); (try clear hk); (try clear hi); have hcz7_0 : w6.cell? ⟨gb191, 0, none⟩ = some (.int .i64 a0_0) := (blk_cell BK191.out 0).trans rfl; have hcz7_1 : w6.cell? ⟨gb191, 1, none⟩ = some (.int .i64 a0_1) := (blk_cell BK191.out 1).trans rfl; have hfz7_0 := blk_frozen BK191.out 0; have hfz7_1 := blk_frozen BK191.out 1)))
    go_loopg [4, 5, 6] k (fun kq v4 v5 v6 w' => ∃ (x4_1 : List Int) (x5_1 : Int) (x6_1 : Int), v5 = .int .i64 x5_1 ∧ v6 = .int .i64 x6_1 ∧ Aside0 (num_Path.l0 kq x4_1 x5_1 x6_1 = some (r1, r2)) ∧ Aside0 (kq ≤ k) ∧ Aside0 (Kd.R (Kd.int .i64) 3 w' w.heap.size (fun _ => True) v4 x4_1) ∧ Aside0 (w'.heap[gb191]? = some (.cells #[.int .i64 a0_0, .int .i64 a0_1] 23 (0, 0))) ∧ Aside0 (Below w.heap.size w w'))
    case atStart => exact ⟨(([] : List Int)), (a0_0), (a0_1), (by first | rfl | (simp; done) | (simp [*]; done)), (by first | rfl | (simp; done) | (simp [*]; done)), H', ⟨Nat.le_refl _⟩, ⟨by first | exact Kd.R_nil _ _ _ _ _ | exact Kd.N_nil _ _ _ _ _ | exact Kd.V_nil _ _ _ _ _ | exact Kd.Q_nil _ _ _ _ _ | exact Kd.S_nil _ _ _ _ _⟩, ⟨by (with_reducible repeat (first | refine blk_drewN ?_ _ | refine blk_drew ?_ | refine blk_alloc ?_ _)); exact BK191.out⟩, ⟨by repeat (first | (with_reducible first | exact HB.out | apply below_alloc | apply pw_below_drewN | apply below_drew1 | refine below_set ?_ GE191.out) | exact HB.out)⟩⟩
    case round =>
      clear H'
      try clear c1
      try clear p2
      try clear c3
      try clear hcz5_0
      try clear hcz5_1
      try clear hcz7_0
      try clear hcz7_1
      try clear hfz5_0
      try clear hfz5_1
      try clear hfz7_0
      try clear hfz7_1
      obtain ⟨x4_1, x5_1, x6_1, rfl, rfl, HA, HK1, HO_4, BK191, HB⟩ := hrel
      cases gk with
      | zero => exact absurd HA.out (by simp [num_Path.l0])
      | succ k1 =>
        have H := HA.out
        clear HA
        simp only [num_Path.l0] at H
        by_cases c8 : x6_1 = 0
        · rw [if_pos c8] at H
          have c8b0 : (x6_1 == 0) = true := beq_iff_eq.mpr c8
          have c8b1 : (x6_1 != 0) = false := bne_eq_false_iff_eq.mpr c8
          clear c8
          simp only [Option.some.injEq, Prod.mk.injEq] at H
          obtain ⟨rfl, rfl⟩ := H
          go_wp2
          repeat (go_quiet (fail); try go_wp2)
          go_ret2
          exact ⟨_, by first | rfl | (simp [errW_none, errW_some] <;> rfl) | (simp [*, errW_none, errW_some] <;> rfl), by (with_reducible repeat (first | apply Kd.R_alloc | apply Kd.R_drewN | apply Kd.R_drew)); exact HO_4.out, by repeat (first | (with_reducible first | exact HB.out | apply below_alloc | apply pw_below_drewN | apply below_drew1 | refine below_set ?_ GE191.out) | exact HB.out)⟩
        · rw [if_neg c8] at H
          have c8b0 : (x6_1 == 0) = false := beq_eq_false_iff_ne.mpr c8
          have c8b1 : (x6_1 != 0) = true := bne_iff_ne.mpr c8
          replace H := Option.bind_eq_some_iff.mp H
          obtain ⟨⟨t193, t194⟩, A90, H⟩ := H
          replace H : (if x4_1.length < 17592186044416 then (num_Path.l0 k1 (x4_1 ++ [t193]) x6_1 t194) else (none)) = some (r1, r2) := H
          have A9 := Aside0.mk A90
          clear A90
          by_cases c10 : x4_1.length < 17592186044416
          · rw [if_pos c10] at H
            have LMc10 := Aside0.mk c10
            clear c10
            obtain ⟨y195, hy195⟩ : ∃ y_ : List Int, y_ = (x4_1 ++ [t193]) := ⟨_, rfl⟩
            replace H : (num_Path.l0 k1 y195 x6_1 t194) = some (r1, r2) := by first | (rw [hy195]; with_reducible exact H) | (have H2_ := (Option.bind_some _ _).symm.trans H; rw [hy195]; with_reducible exact H2_) | (have H2_ := (Option.bind_some _ _).symm.trans H; with_reducible exact H2_) | with_reducible exact H | (rw [hy195]; exact H) | exact H
            have Ny195 := Aside0.mk hy195
            clear hy195
            have H' := Aside0.mk H
            clear H
            go_wp2_with (first | (go_at_call 34; (with_reducible refine (num_down.calls x5_1 x6_1 t193 t194 _ A9.out).mono ?_); rintro e w' ⟨rfl, ⟨nd, rfl⟩⟩; (try first | exact ⟨rfl, _, World.drewN_drewN _ _ _⟩ | exact ⟨rfl, _, Eq.trans (World.drewN_drewN _ _ _) (congrArg (World.drewN _) (Nat.add_assoc _ _ _))⟩)) | ((with_reducible refine gate_builtin (b := .append) (xs := #[.tmp 24, .tmp 26]) rfl ?_); at_builtin; refine Kd.R_append (Kd.int .i64) (w0 := w) w.heap.size rfl (.tmp 24) (.tmp 26) 34 3 (.int .i64 0) 8 rfl Tryz.underlying34 info3 rfl (by decide) (by omega) u4 x4_1 t193 [.int .i64 t193] (fun _ => True) (fun _ => False) rfl rfl ?aP (fun _ hk => hk.elim) ?aF ?aO ?aB ?aS ?aL ?_; (case aP => exact rfl); (case aB => exact (by repeat (first | (with_reducible first | exact HB.out | apply below_alloc | apply pw_below_drewN | apply below_drew1 | refine below_set ?_ GE191.out) | exact HB.out))); (case aF => exact (fun _ _ => trivial)); (case aO => exact (by (with_reducible repeat (first | apply Kd.R_alloc | apply Kd.R_drewN | apply Kd.R_drew)); exact HO_4.out)); (case aS => exact (below_size (by repeat (first | (with_reducible first | exact HB.out | apply below_alloc | apply pw_below_drewN | apply below_drew1 | refine below_set ?_ GE191.out) | exact HB.out)))); (case aL => have := LMc10.out; omega); intro v196 w11 ho hb hg hat; rw [← Ny195.out] at ho; have n0_ := Aside0.mk (blk_grown (g := gb191) (o := .cells #[.int .i64 a0_0, .int .i64 a0_1] 23 (0, 0)) (by (with_reducible repeat (first | refine blk_drewN ?_ _ | refine blk_drew ?_ | refine blk_alloc ?_ _)); exact BK191.out) hg (Kd.R_ne HO_4.out BK191.out (by decide))); have n1_ := Aside0.mk (hb); have n2_ := Aside0.mk (ho); clear BK191; clear HB; clear HO_4; have BK191 := n0_; have HB := n1_; have HO197 := n2_; clear n0_ n1_ n2_; clear ho hb hg hat))
            repeat (go_quiet (first | (go_at_call 34; (with_reducible refine (num_down.calls x5_1 x6_1 t193 t194 _ A9.out).mono ?_); rintro e w' ⟨rfl, ⟨nd, rfl⟩⟩; (try first | exact ⟨rfl, _, World.drewN_drewN _ _ _⟩ | exact ⟨rfl, _, Eq.trans (World.drewN_drewN _ _ _) (congrArg (World.drewN _) (Nat.add_assoc _ _ _))⟩)) | ((with_reducible refine gate_builtin (b := .append) (xs := #[.tmp 24, .tmp 26]) rfl ?_); at_builtin; refine Kd.R_append (Kd.int .i64) (w0 := w) w.heap.size rfl (.tmp 24) (.tmp 26) 34 3 (.int .i64 0) 8 rfl Tryz.underlying34 info3 rfl (by decide) (by omega) u4 x4_1 t193 [.int .i64 t193] (fun _ => True) (fun _ => False) rfl rfl ?aP (fun _ hk => hk.elim) ?aF ?aO ?aB ?aS ?aL ?_; (case aP => exact rfl); (case aB => exact (by repeat (first | (with_reducible first | exact HB.out | apply below_alloc | apply pw_below_drewN | apply below_drew1 | refine below_set ?_ GE191.out) | exact HB.out))); (case aF => exact (fun _ _ => trivial)); (case aO => exact (by (with_reducible repeat (first | apply Kd.R_alloc | apply Kd.R_drewN | apply Kd.R_drew)); exact HO_4.out)); (case aS => exact (below_size (by repeat (first | (with_reducible first | exact HB.out | apply below_alloc | apply pw_below_drewN | apply below_drew1 | refine below_set ?_ GE191.out) | exact HB.out)))); (case aL => have := LMc10.out; omega); intro v196 w11 ho hb hg hat; rw [← Ny195.out] at ho; have n0_ := Aside0.mk (blk_grown (g := gb191) (o := .cells #[.int .i64 a0_0, .int .i64 a0_1] 23 (0, 0)) (by (with_reducible repeat (first | refine blk_drewN ?_ _ | refine blk_drew ?_ | refine blk_alloc ?_ _)); exact BK191.out) hg (Kd.R_ne HO_4.out BK191.out (by decide))); have n1_ := Aside0.mk (hb); have n2_ := Aside0.mk (ho); clear BK191; clear HB; clear HO_4; have BK191 := n0_; have HB := n1_; have HO197 := n2_; clear n0_ n1_ n2_; clear ho hb hg hat)); try go_wp2_with (first | (go_at_call 34; (with_reducible refine (num_down.calls x5_1 x6_1 t193 t194 _ A9.out).mono ?_); rintro e w' ⟨rfl, ⟨nd, rfl⟩⟩; (try first | exact ⟨rfl, _, World.drewN_drewN _ _ _⟩ | exact ⟨rfl, _, Eq.trans (World.drewN_drewN _ _ _) (congrArg (World.drewN _) (Nat.add_assoc _ _ _))⟩)) | ((with_reducible refine gate_builtin (b := .append) (xs := #[.tmp 24, .tmp 26]) rfl ?_); at_builtin; refine Kd.R_append (Kd.int .i64) (w0 := w) w.heap.size rfl (.tmp 24) (.tmp 26) 34 3 (.int .i64 0) 8 rfl Tryz.underlying34 info3 rfl (by decide) (by omega) u4 x4_1 t193 [.int .i64 t193] (fun _ => True) (fun _ => False) rfl rfl ?aP (fun _ hk => hk.elim) ?aF ?aO ?aB ?aS ?aL ?_; (case aP => exact rfl); (case aB => exact (by repeat (first | (with_reducible first | exact HB.out | apply below_alloc | apply pw_below_drewN | apply below_drew1 | refine below_set ?_ GE191.out) | exact HB.out))); (case aF => exact (fun _ _ => trivial)); (case aO => exact (by (with_reducible repeat (first | apply Kd.R_alloc | apply Kd.R_drewN | apply Kd.R_drew)); exact HO_4.out)); (case aS => exact (below_size (by repeat (first | (with_reducible first | exact HB.out | apply below_alloc | apply pw_below_drewN | apply below_drew1 | refine below_set ?_ GE191.out) | exact HB.out)))); (case aL => have := LMc10.out; omega); intro v196 w11 ho hb hg hat; rw [← Ny195.out] at ho; have n0_ := Aside0.mk (blk_grown (g := gb191) (o := .cells #[.int .i64 a0_0, .int .i64 a0_1] 23 (0, 0)) (by (with_reducible repeat (first | refine blk_drewN ?_ _ | refine blk_drew ?_ | refine blk_alloc ?_ _)); exact BK191.out) hg (Kd.R_ne HO_4.out BK191.out (by decide))); have n1_ := Aside0.mk (hb); have n2_ := Aside0.mk (ho); clear BK191; clear HB; clear HO_4; have BK191 := n0_; have HB := n1_; have HO197 := n2_; clear n0_ n1_ n2_; clear ho hb hg hat)))
            go_roundg k1
            case measure => have := HK1.out; omega
            case rel => exact ⟨(y195), (x6_1), (t194), (by first | rfl | (simp; done) | (simp [*]; done)), (by first | rfl | (simp; done) | (simp [*]; done)), H', ⟨by have := HK1.out; omega⟩, ⟨by (with_reducible repeat (first | apply Kd.R_alloc | apply Kd.R_drewN | apply Kd.R_drew)); exact HO197.out⟩, ⟨by (with_reducible repeat (first | refine blk_drewN ?_ _ | refine blk_drew ?_ | refine blk_alloc ?_ _)); exact BK191.out⟩, ⟨by repeat (first | (with_reducible first | exact HB.out | apply below_alloc | apply pw_below_drewN | apply below_drew1 | refine below_set ?_ GE191.out) | exact HB.out)⟩⟩
          · rw [if_neg c10] at H
            exact absurd H (by simp)
  · replace c3 := Bool.eq_false_iff.mpr c3
    subst c3
    have H1 : (some (([] : List Int), 2)) = some (r1, r2) := by rw [if_neg (show ¬ (false = true) by decide)] at H; exact H
    clear H
    have H := H1
    clear H1
    simp only [Option.some.injEq, Prod.mk.injEq] at H
    obtain ⟨rfl, rfl⟩ := H
    go_enter Tryz.func15, Tryz.ntmps15
    go_wp2_with (first | ((with_reducible refine gate_dst (N := 1) rfl ?_); refine box_event ?hg (N := 1) ?hd (cs := #[.int .i64 a0_0, .int .i64 a0_1]) (t := 23) ?hr ?_; (case hd => rfl); (case hg => rfl); (case hr => first | (go_simp; done) | (go_simp; rfl)); intro gb191 hg w12 hbox hb; have n0_ := Aside0.mk (below_step (by repeat (first | (with_reducible first | exact HB.out | apply below_alloc | apply pw_below_drewN | apply below_drew1) | exact HB.out)) hb); have n1_ := Aside0.mk (hbox); have n2_ := Aside0.mk ((by rw [hg]; exact (below_size (by repeat (first | (with_reducible first | exact HB.out | apply below_alloc | apply pw_below_drewN | apply below_drew1) | exact HB.out))) : w.heap.size ≤ gb191)); have n3_ := Aside0.mk ((by rw [hg]; exact (below_size (by repeat (first | (with_reducible first | exact HB.out | apply below_alloc | apply pw_below_drewN | apply below_drew1) | exact HB.out))) : w.heap.size ≤ gb191)); clear HB; have HB := n0_; have BK191 := n1_; have GW191 := n2_; have GE191 := n3_; clear n0_ n1_ n2_ n3_; clear hb hbox hg; have hcz13_0 : w12.cell? ⟨gb191, 0, none⟩ = some (.int .i64 a0_0) := (blk_cell BK191.out 0).trans rfl; have hcz13_1 : w12.cell? ⟨gb191, 1, none⟩ = some (.int .i64 a0_1) := (blk_cell BK191.out 1).trans rfl; have hfz13_0 := blk_frozen BK191.out 0; have hfz13_1 := blk_frozen BK191.out 1) | (go_at_call 16; (with_reducible refine (num_Valid.calls k a0_0 a0_1 false _ A2.out).mono ?_); rintro e w14 ⟨rfl, hb⟩; have n0_ := Aside0.mk (blk_below (g := gb191) (o := .cells #[.int .i64 a0_0, .int .i64 a0_1] 23 (0, 0)) (by (with_reducible repeat (first | refine blk_drewN ?_ _ | refine blk_drew ?_ | refine blk_alloc ?_ _)); exact BK191.out) hb); have n1_ := Aside0.mk (below_step (by repeat (first | (with_reducible first | exact HB.out | apply below_alloc | apply pw_below_drewN | apply below_drew1 | refine below_set ?_ GE191.out) | exact HB.out)) hb); clear BK191; clear HB; have BK191 := n0_; have HB := n1_; clear n0_ n1_; (try clear hb); (try clear hb2); (try clear hk); (try clear hi)))
    repeat (go_quiet (first | ((with_reducible refine gate_dst (N := 1) rfl ?_); refine box_event ?hg (N := 1) ?hd (cs := #[.int .i64 a0_0, .int .i64 a0_1]) (t := 23) ?hr ?_; (case hd => rfl); (case hg => rfl); (case hr => first | (go_simp; done) | (go_simp; rfl)); intro gb191 hg w12 hbox hb; have n0_ := Aside0.mk (below_step (by repeat (first | (with_reducible first | exact HB.out | apply below_alloc | apply pw_below_drewN | apply below_drew1) | exact HB.out)) hb); have n1_ := Aside0.mk (hbox); have n2_ := Aside0.mk ((by rw [hg]; exact (below_size (by repeat (first | (with_reducible first | exact HB.out | apply below_alloc | apply pw_below_drewN | apply below_drew1) | exact HB.out))) : w.heap.size ≤ gb191)); have n3_ := Aside0.mk ((by rw [hg]; exact (below_size (by repeat (first | (with_reducible first | exact HB.out | apply below_alloc | apply pw_below_drewN | apply below_drew1) | exact HB.out))) : w.heap.size ≤ gb191)); clear HB; have HB := n0_; have BK191 := n1_; have GW191 := n2_; have GE191 := n3_; clear n0_ n1_ n2_ n3_; clear hb hbox hg; have hcz13_0 : w12.cell? ⟨gb191, 0, none⟩ = some (.int .i64 a0_0) := (blk_cell BK191.out 0).trans rfl; have hcz13_1 : w12.cell? ⟨gb191, 1, none⟩ = some (.int .i64 a0_1) := (blk_cell BK191.out 1).trans rfl; have hfz13_0 := blk_frozen BK191.out 0; have hfz13_1 := blk_frozen BK191.out 1) | (go_at_call 16; (with_reducible refine (num_Valid.calls k a0_0 a0_1 false _ A2.out).mono ?_); rintro e w14 ⟨rfl, hb⟩; have n0_ := Aside0.mk (blk_below (g := gb191) (o := .cells #[.int .i64 a0_0, .int .i64 a0_1] 23 (0, 0)) (by (with_reducible repeat (first | refine blk_drewN ?_ _ | refine blk_drew ?_ | refine blk_alloc ?_ _)); exact BK191.out) hb); have n1_ := Aside0.mk (below_step (by repeat (first | (with_reducible first | exact HB.out | apply below_alloc | apply pw_below_drewN | apply below_drew1 | refine below_set ?_ GE191.out) | exact HB.out)) hb); clear BK191; clear HB; have BK191 := n0_; have HB := n1_; clear n0_ n1_; (try clear hb); (try clear hb2); (try clear hk); (try clear hi))); try go_wp2_with (first | ((with_reducible refine gate_dst (N := 1) rfl ?_); refine box_event ?hg (N := 1) ?hd (cs := #[.int .i64 a0_0, .int .i64 a0_1]) (t := 23) ?hr ?_; (case hd => rfl); (case hg => rfl); (case hr => first | (go_simp; done) | (go_simp; rfl)); intro gb191 hg w12 hbox hb; have n0_ := Aside0.mk (below_step (by repeat (first | (with_reducible first | exact HB.out | apply below_alloc | apply pw_below_drewN | apply below_drew1) | exact HB.out)) hb); have n1_ := Aside0.mk (hbox); have n2_ := Aside0.mk ((by rw [hg]; exact (below_size (by repeat (first | (with_reducible first | exact HB.out | apply below_alloc | apply pw_below_drewN | apply below_drew1) | exact HB.out))) : w.heap.size ≤ gb191)); have n3_ := Aside0.mk ((by rw [hg]; exact (below_size (by repeat (first | (with_reducible first | exact HB.out | apply below_alloc | apply pw_below_drewN | apply below_drew1) | exact HB.out))) : w.heap.size ≤ gb191)); clear HB; have HB := n0_; have BK191 := n1_; have GW191 := n2_; have GE191 := n3_; clear n0_ n1_ n2_ n3_; clear hb hbox hg; have hcz13_0 : w12.cell? ⟨gb191, 0, none⟩ = some (.int .i64 a0_0) := (blk_cell BK191.out 0).trans rfl; have hcz13_1 : w12.cell? ⟨gb191, 1, none⟩ = some (.int .i64 a0_1) := (blk_cell BK191.out 1).trans rfl; have hfz13_0 := blk_frozen BK191.out 0; have hfz13_1 := blk_frozen BK191.out 1) | (go_at_call 16; (with_reducible refine (num_Valid.calls k a0_0 a0_1 false _ A2.out).mono ?_); rintro e w14 ⟨rfl, hb⟩; have n0_ := Aside0.mk (blk_below (g := gb191) (o := .cells #[.int .i64 a0_0, .int .i64 a0_1] 23 (0, 0)) (by (with_reducible repeat (first | refine blk_drewN ?_ _ | refine blk_drew ?_ | refine blk_alloc ?_ _)); exact BK191.out) hb); have n1_ := Aside0.mk (below_step (by repeat (first | (with_reducible first | exact HB.out | apply below_alloc | apply pw_below_drewN | apply below_drew1 | refine below_set ?_ GE191.out) | exact HB.out)) hb); clear BK191; clear HB; have BK191 := n0_; have HB := n1_; clear n0_ n1_; (try clear hb); (try clear hb2); (try clear hk); (try clear hi))))
    go_ret2
    exact ⟨_, by first | rfl | (simp [errW_none, errW_some] <;> rfl) | (simp [*, errW_none, errW_some] <;> rfl), by first | exact Kd.R_nil _ _ _ _ _ | exact Kd.N_nil _ _ _ _ _ | exact Kd.V_nil _ _ _ _ _ | exact Kd.Q_nil _ _ _ _ _ | exact Kd.S_nil _ _ _ _ _, by repeat (first | (with_reducible first | exact HB.out | apply below_alloc | apply pw_below_drewN | apply below_drew1 | refine below_set ?_ GE191.out) | exact HB.out)⟩
mutual
def num_FromPath.l0 : Nat → List Int → Int → List Int → Int → Int → Option (Int × Int × Int)
  | 0, _, _, _, _, _ => none
  | k + 1, x0, x4, x22, x23, x24 => if x24 < x23 then (if 0 ≤ x24 then (if x24 < (x22.length : Int) then (if x24 > 0 then (if (rd x22 x24) < 1 then (some (0, 0, 2)) else (num_FromPath.l0 k x0 x4 x22 x23 (wrap64 (x24 + 1)))) else (num_FromPath.l0 k x0 x4 x22 x23 (wrap64 (x24 + 1)))) else (none)) else (none)) else (if x4 > 0 then (if 0 ≤ x4 then (if x4 < (x0.length : Int) then (num_FromPath.j1 k x0 x4 ((rd x0 x4) == 1)) else (none)) else (none)) else (num_FromPath.j1 k x0 x4 false))
def num_FromPath.j1 : Nat → List Int → Int → Bool → Option (Int × Int × Int)
  | 0, _, _, _ => none
  | k + 1, x0, x4, x45 => if x45 = true then (some (0, 0, 2)) else (num_FromPath.l1 k x0 1 0 x4)
def num_FromPath.l1 : Nat → List Int → Int → Int → Int → Option (Int × Int × Int)
  | 0, _, _, _, _ => none
  | k + 1, x0, x7, x8, x9 => if x9 > 0 then (if 0 ≤ x9 then (if x9 < (x0.length : Int) then (if (rd x0 x9) > 1048576 then (some (0, 0, 4)) else (if (wrap64 ((wrap64 ((rd x0 x9) * x7)) + x8)) > 1048576 then (some (0, 0, 4)) else (num_FromPath.l1 k x0 (wrap64 ((wrap64 ((rd x0 x9) * x7)) + x8)) x7 (wrap64 (x9 - 1))))) else (none)) else (none)) else (if 0 < (x0.length : Int) then (if (rd x0 0) < (-1099511627777) then (num_FromPath.j3 k x7 x8 (rd x0 0) true) else (num_FromPath.j3 k x7 x8 (rd x0 0) (decide ((rd x0 0) > 1099511627776)))) else (none))
def num_FromPath.j3 : Nat → Int → Int → Int → Bool → Option (Int × Int × Int)
  | 0, _, _, _, _ => none
  | k + 1, x7, x8, x10, x78 => if x78 = true then (some (0, 0, 4)) else ((num_Valid.f k (wrap64 ((wrap64 (x10 * x7)) + x8)) x7).bind fun t205 => (if t205 = true then (some (wrap64 ((wrap64 (x10 * x7)) + x8), x7, 0)) else (some (0, 0, 4))))
end
def num_FromPath.f (k : Nat) (l0 : List Int) : Option (Int × Int × Int) := if (l0.length : Int) > 64 then (some (0, 0, 3)) else (if (wrap64 ((l0.length : Int) - 1)) < 0 then (some (0, 0, 2)) else (num_FromPath.l0 k l0 (wrap64 ((l0.length : Int) - 1)) l0 (l0.length : Int) 0))
set_option maxHeartbeats 8000000 in
set_option maxRecDepth 100000 in
theorem num_FromPath.calls (k : Nat) (A0 : Option Addr) (c0 : Nat) (l0 : List Int) (r1 : Int) (r2 : Int) (r3 : Int) (w : World) (hr0 : Kd.C (Kd.int .i64) w A0 l0.length l0) (hc0 : l0.length ≤ c0) (h : num_FromPath.f k l0 = some (r1, r2, r3)) :
    Calls Tryz.prog 17 #[.slice A0 l0.length c0] w fun e w' => e = .returned (.tuple #[.agg #[.int .i64 r1, .int .i64 r2], .int .i64 r3]) ∧ Below w.heap.size w w' := by
  have hu23 := Tryz.underlying23
  have HR0 := Aside0.mk hr0
  have HC0 := Aside0.mk hc0
  clear hr0 hc0
  have HB := Aside0.mk (Below.refl w.heap.size w)
  have H : (if (l0.length : Int) > 64 then (some (0, 0, 3)) else (if (wrap64 ((l0.length : Int) - 1)) < 0 then (some (0, 0, 2)) else (num_FromPath.l0 k l0 (wrap64 ((l0.length : Int) - 1)) l0 (l0.length : Int) 0))) = some (r1, r2, r3) := h
  clear h
  by_cases c2 : (l0.length : Int) > 64
  · rw [if_pos c2] at H
    have c2b0 : decide (64 < (l0.length : Int)) = true := decide_eq_true c2
    have c2b1 : decide (64 < l0.length) = true := decide_eq_true (by omega)
    clear c2
    simp only [Option.some.injEq, Prod.mk.injEq] at H
    obtain ⟨rfl, rfl, rfl⟩ := H
    go_enter Tryz.func17, Tryz.ntmps17
    go_wp2_with (first | ((with_reducible refine gate_dst (N := 2) rfl ?_); refine box_event ?hg (N := 2) ?hd (cs := #[.int .i64 0, .int .i64 0]) (t := 23) ?hr ?_; (case hd => rfl); (case hg => rfl); (case hr => first | (go_simp; done) | (go_simp; rfl)); intro gb198 hg w3 hbox hb; have n0_ := Aside0.mk (below_step (by repeat (first | (with_reducible first | exact HB.out | apply below_alloc | apply pw_below_drewN | apply below_drew1) | exact HB.out)) hb); have n1_ := Aside0.mk (hbox); have n2_ := Aside0.mk ((by rw [hg]; exact (below_size (by repeat (first | (with_reducible first | exact HB.out | apply below_alloc | apply pw_below_drewN | apply below_drew1) | exact HB.out))) : w.heap.size ≤ gb198)); have n3_ := Aside0.mk ((by rw [hg]; exact (below_size (by repeat (first | (with_reducible first | exact HB.out | apply below_alloc | apply pw_below_drewN | apply below_drew1) | exact HB.out))) : w.heap.size ≤ gb198)); clear HB; have HB := n0_; have BK198 := n1_; have GW198 := n2_; have GE198 := n3_; clear n0_ n1_ n2_ n3_; clear hb hbox hg; have hcz4_0 : w3.cell? ⟨gb198, 0, none⟩ = some (.int .i64 0) := (blk_cell BK198.out 0).trans rfl; have hcz4_1 : w3.cell? ⟨gb198, 1, none⟩ = some (.int .i64 0) := (blk_cell BK198.out 1).trans rfl; have hfz4_0 := blk_frozen BK198.out 0; have hfz4_1 := blk_frozen BK198.out 1))
    refine bodyPost_ret (results_ct rfl _ _ gb198 23 #[.int .i64 0, .int .i64 0] (0, 0) _ rfl (by (with_reducible repeat (first | refine blk_drewN ?_ _ | refine blk_drew ?_ | refine blk_alloc ?_ _)); refine blk_put (cs := #[.int .i64 0, .int .i64 0]) ?_ 1 _ rfl; (with_reducible repeat (first | refine blk_drewN ?_ _ | refine blk_drew ?_ | refine blk_alloc ?_ _)); refine blk_put (cs := #[.int .i64 0, .int .i64 0]) ?_ 0 _ rfl; (with_reducible repeat (first | refine blk_drewN ?_ _ | refine blk_drew ?_ | refine blk_alloc ?_ _)); exact BK198.out) Tryz.underlying23 rfl (by kernel_rfl)) rfl ?_
    exact ⟨by first | rfl | (simp [errW_none, errW_some] <;> rfl) | (simp [*, errW_none, errW_some] <;> rfl), by repeat (first | (with_reducible first | exact HB.out | apply below_alloc | apply pw_below_drewN | apply below_drew1 | refine below_set ?_ GE198.out) | exact HB.out)⟩
  · rw [if_neg c2] at H
    have c2b0 : decide (64 < (l0.length : Int)) = false := decide_eq_false c2
    have c2b1 : decide (64 < l0.length) = false := decide_eq_false (by omega)
    clear c2
    by_cases c5 : (wrap64 ((l0.length : Int) - 1)) < 0
    · rw [if_pos c5] at H
      have c5b0 : decide ((wrap64 ((l0.length : Int) - 1)) < 0) = true := decide_eq_true c5
      clear c5
      simp only [Option.some.injEq, Prod.mk.injEq] at H
      obtain ⟨rfl, rfl, rfl⟩ := H
      go_enter Tryz.func17, Tryz.ntmps17
      go_wp2_with (first | ((with_reducible refine gate_dst (N := 2) rfl ?_); refine box_event ?hg (N := 2) ?hd (cs := #[.int .i64 0, .int .i64 0]) (t := 23) ?hr ?_; (case hd => rfl); (case hg => rfl); (case hr => first | (go_simp; done) | (go_simp; rfl)); intro gb198 hg w6 hbox hb; have n0_ := Aside0.mk (below_step (by repeat (first | (with_reducible first | exact HB.out | apply below_alloc | apply pw_below_drewN | apply below_drew1) | exact HB.out)) hb); have n1_ := Aside0.mk (hbox); have n2_ := Aside0.mk ((by rw [hg]; exact (below_size (by repeat (first | (with_reducible first | exact HB.out | apply below_alloc | apply pw_below_drewN | apply below_drew1) | exact HB.out))) : w.heap.size ≤ gb198)); have n3_ := Aside0.mk ((by rw [hg]; exact (below_size (by repeat (first | (with_reducible first | exact HB.out | apply below_alloc | apply pw_below_drewN | apply below_drew1) | exact HB.out))) : w.heap.size ≤ gb198)); clear HB; have HB := n0_; have BK198 := n1_; have GW198 := n2_; have GE198 := n3_; clear n0_ n1_ n2_ n3_; clear hb hbox hg; have hcz7_0 : w6.cell? ⟨gb198, 0, none⟩ = some (.int .i64 0) := (blk_cell BK198.out 0).trans rfl; have hcz7_1 : w6.cell? ⟨gb198, 1, none⟩ = some (.int .i64 0) := (blk_cell BK198.out 1).trans rfl; have hfz7_0 := blk_frozen BK198.out 0; have hfz7_1 := blk_frozen BK198.out 1))
      refine bodyPost_ret (results_ct rfl _ _ gb198 23 #[.int .i64 0, .int .i64 0] (0, 0) _ rfl (by (with_reducible repeat (first | refine blk_drewN ?_ _ | refine blk_drew ?_ | refine blk_alloc ?_ _)); refine blk_put (cs := #[.int .i64 0, .int .i64 0]) ?_ 1 _ rfl; (with_reducible repeat (first | refine blk_drewN ?_ _ | refine blk_drew ?_ | refine blk_alloc ?_ _)); refine blk_put (cs := #[.int .i64 0, .int .i64 0]) ?_ 0 _ rfl; (with_reducible repeat (first | refine blk_drewN ?_ _ | refine blk_drew ?_ | refine blk_alloc ?_ _)); exact BK198.out) Tryz.underlying23 rfl (by kernel_rfl)) rfl ?_
      exact ⟨by first | rfl | (simp [errW_none, errW_some] <;> rfl) | (simp [*, errW_none, errW_some] <;> rfl), by repeat (first | (with_reducible first | exact HB.out | apply below_alloc | apply pw_below_drewN | apply below_drew1 | refine below_set ?_ GE198.out) | exact HB.out)⟩
    · rw [if_neg c5] at H
      have c5b0 : decide ((wrap64 ((l0.length : Int) - 1)) < 0) = false := decide_eq_false c5
      clear c5
      have H' := Aside0.mk H
      clear H
      go_enter Tryz.func17, Tryz.ntmps17
      go_wp2_with (first | ((with_reducible refine gate_dst (N := 2) rfl ?_); refine box_event ?hg (N := 2) ?hd (cs := #[.int .i64 0, .int .i64 0]) (t := 23) ?hr ?_; (case hd => rfl); (case hg => rfl); (case hr => first | (go_simp; done) | (go_simp; rfl)); intro gb198 hg w8 hbox hb; have n0_ := Aside0.mk (below_step (by repeat (first | (with_reducible first | exact HB.out | apply below_alloc | apply pw_below_drewN | apply below_drew1) | exact HB.out)) hb); have n1_ := Aside0.mk (hbox); have n2_ := Aside0.mk ((by rw [hg]; exact (below_size (by repeat (first | (with_reducible first | exact HB.out | apply below_alloc | apply pw_below_drewN | apply below_drew1) | exact HB.out))) : w.heap.size ≤ gb198)); have n3_ := Aside0.mk ((by rw [hg]; exact (below_size (by repeat (first | (with_reducible first | exact HB.out | apply below_alloc | apply pw_below_drewN | apply below_drew1) | exact HB.out))) : w.heap.size ≤ gb198)); clear HB; have HB := n0_; have BK198 := n1_; have GW198 := n2_; have GE198 := n3_; clear n0_ n1_ n2_ n3_; clear hb hbox hg))
      go_loopg [24] k (fun kq v24 w' => ∃ (x24_1 : Int) (x199000_1 : Int) (x199001_1 : Int), v24 = .int .i64 x24_1 ∧ Aside0 (num_FromPath.l0 kq l0 (wrap64 ((l0.length : Int) - 1)) l0 (l0.length : Int) x24_1 = some (r1, r2, r3)) ∧ Aside0 (kq ≤ k) ∧ Aside0 (w'.heap[gb198]? = some (.cells #[.int .i64 x199000_1, .int .i64 x199001_1] 23 (0, 0))) ∧ Aside0 (Below w.heap.size w w'))
      case atStart => exact ⟨(0), (0), (0), (by first | rfl | (simp; done) | (simp [*]; done)), H', ⟨Nat.le_refl _⟩, ⟨by (with_reducible repeat (first | refine blk_drewN ?_ _ | refine blk_drew ?_ | refine blk_alloc ?_ _)); exact BK198.out⟩, ⟨by repeat (first | (with_reducible first | exact HB.out | apply below_alloc | apply pw_below_drewN | apply below_drew1 | refine below_set ?_ GE198.out) | exact HB.out)⟩⟩
      case round =>
        clear H'
        try clear c1
        try clear c2
        try clear c2b0
        try clear c2b1
        try clear p2
        try clear c5
        try clear c5b0
        try clear p6
        try clear hcz4_0
        try clear hcz4_1
        try clear hcz7_0
        try clear hcz7_1
        try clear hfz4_0
        try clear hfz4_1
        try clear hfz7_0
        try clear hfz7_1
        obtain ⟨x24_1, x199000_1, x199001_1, rfl, HA, HK1, BK198, HB⟩ := hrel
        cases gk with
        | zero => exact absurd HA.out (by simp [num_FromPath.l0])
        | succ k1 =>
          have H := HA.out
          clear HA
          simp only [num_FromPath.l0] at H
          by_cases c9 : x24_1 < (l0.length : Int)
          · rw [if_pos c9] at H
            have c9b0 : decide (x24_1 < (l0.length : Int)) = true := decide_eq_true c9
            clear c9
            by_cases c10 : 0 ≤ x24_1
            · rw [if_pos c10] at H
              have c10b0 : decide (0 ≤ x24_1) = true := decide_eq_true c10
              clear c10
              by_cases c11 : x24_1 < (l0.length : Int)
              · rw [if_pos c11] at H
                have c11b0 : decide (x24_1 < (l0.length : Int)) = true := decide_eq_true c11
                clear c11
                by_cases c12 : x24_1 > 0
                · rw [if_pos c12] at H
                  have c12b0 : decide (0 < x24_1) = true := decide_eq_true c12
                  clear c12
                  by_cases c13 : (rd l0 x24_1) < 1
                  · rw [if_pos c13] at H
                    have c13b0 : decide ((rd l0 x24_1) < 1) = true := decide_eq_true c13
                    clear c13
                    simp only [Option.some.injEq, Prod.mk.injEq] at H
                    obtain ⟨rfl, rfl, rfl⟩ := H
                    have p199 : 0 ≤ (x24_1 : Int) := of_decide_eq_true (by first | (with_reducible assumption) | assumption)
                    have q199 : x24_1 < (l0.length : Int) := of_decide_eq_true (by first | (with_reducible assumption) | assumption)
                    obtain ⟨ad199, e199, hx199_0⟩ := Kd.at_int HR0.out x24_1 p199 q199
                    cases e199
                    replace hx199_0 := (HB.out.cell (World.block_lt_of_cell? w _ hx199_0)).trans hx199_0
                    replace p199 := eq_true p199
                    replace q199 := eq_true q199
                    have hcz14_0 : wr.cell? ⟨gb198, 0, none⟩ = some (.int .i64 x199000_1) := (blk_cell BK198.out 0).trans rfl
                    have hcz14_1 : wr.cell? ⟨gb198, 1, none⟩ = some (.int .i64 x199001_1) := (blk_cell BK198.out 1).trans rfl
                    have hfz14_0 := blk_frozen BK198.out 0
                    have hfz14_1 := blk_frozen BK198.out 1
                    go_wp2
                    refine bodyPost_ret (results_ct rfl _ _ gb198 23 #[.int .i64 0, .int .i64 0] (0, 0) _ rfl (by (with_reducible repeat (first | refine blk_drewN ?_ _ | refine blk_drew ?_ | refine blk_alloc ?_ _)); refine blk_put (cs := #[.int .i64 0, .int .i64 x199001_1]) ?_ 1 _ rfl; (with_reducible repeat (first | refine blk_drewN ?_ _ | refine blk_drew ?_ | refine blk_alloc ?_ _)); refine blk_put (cs := #[.int .i64 x199000_1, .int .i64 x199001_1]) ?_ 0 _ rfl; (with_reducible repeat (first | refine blk_drewN ?_ _ | refine blk_drew ?_ | refine blk_alloc ?_ _)); exact BK198.out) Tryz.underlying23 rfl (by kernel_rfl)) rfl ?_
                    exact ⟨by first | rfl | (simp [errW_none, errW_some] <;> rfl) | (simp [*, errW_none, errW_some] <;> rfl), by repeat (first | (with_reducible first | exact HB.out | apply below_alloc | apply pw_below_drewN | apply below_drew1 | refine below_set ?_ GE198.out) | exact HB.out)⟩
                  · rw [if_neg c13] at H
                    have c13b0 : decide ((rd l0 x24_1) < 1) = false := decide_eq_false c13
                    clear c13
                    have H' := Aside0.mk H
                    clear H
                    have p199 : 0 ≤ (x24_1 : Int) := of_decide_eq_true (by first | (with_reducible assumption) | assumption)
                    have q199 : x24_1 < (l0.length : Int) := of_decide_eq_true (by first | (with_reducible assumption) | assumption)
                    obtain ⟨ad199, e199, hx199_0⟩ := Kd.at_int HR0.out x24_1 p199 q199
                    cases e199
                    replace hx199_0 := (HB.out.cell (World.block_lt_of_cell? w _ hx199_0)).trans hx199_0
                    replace p199 := eq_true p199
                    replace q199 := eq_true q199
                    go_wp2
                    go_roundg k1
                    case measure => have := HK1.out; omega
                    case rel => exact ⟨(wrap64 (x24_1 + 1)), (x199000_1), (x199001_1), (by first | rfl | (simp; done) | (simp [*]; done)), H', ⟨by have := HK1.out; omega⟩, ⟨by (with_reducible repeat (first | refine blk_drewN ?_ _ | refine blk_drew ?_ | refine blk_alloc ?_ _)); exact BK198.out⟩, ⟨by repeat (first | (with_reducible first | exact HB.out | apply below_alloc | apply pw_below_drewN | apply below_drew1 | refine below_set ?_ GE198.out) | exact HB.out)⟩⟩
                · rw [if_neg c12] at H
                  have c12b0 : decide (0 < x24_1) = false := decide_eq_false c12
                  clear c12
                  have H' := Aside0.mk H
                  clear H
                  have p199 : 0 ≤ (x24_1 : Int) := of_decide_eq_true (by first | (with_reducible assumption) | assumption)
                  have q199 : x24_1 < (l0.length : Int) := of_decide_eq_true (by first | (with_reducible assumption) | assumption)
                  obtain ⟨ad199, e199, hx199_0⟩ := Kd.at_int HR0.out x24_1 p199 q199
                  cases e199
                  replace hx199_0 := (HB.out.cell (World.block_lt_of_cell? w _ hx199_0)).trans hx199_0
                  replace p199 := eq_true p199
                  replace q199 := eq_true q199
                  go_wp2
                  go_roundg k1
                  case measure => have := HK1.out; omega
                  case rel => exact ⟨(wrap64 (x24_1 + 1)), (x199000_1), (x199001_1), (by first | rfl | (simp; done) | (simp [*]; done)), H', ⟨by have := HK1.out; omega⟩, ⟨by (with_reducible repeat (first | refine blk_drewN ?_ _ | refine blk_drew ?_ | refine blk_alloc ?_ _)); exact BK198.out⟩, ⟨by repeat (first | (with_reducible first | exact HB.out | apply below_alloc | apply pw_below_drewN | apply below_drew1 | refine below_set ?_ GE198.out) | exact HB.out)⟩⟩
              · rw [if_neg c11] at H
                exact absurd H (by simp)
            · rw [if_neg c10] at H
              exact absurd H (by simp)
          · rw [if_neg c9] at H
            have c9b0 : decide (x24_1 < (l0.length : Int)) = false := decide_eq_false c9
            clear c9
            have HC15 := Aside0.mk H
            clear H
            go_upto_region 12 with (fail)
            go_cut [45] (fun v45 wc => ∃ (kq : Nat) (x45_14 : Bool), v45 = .bool x45_14 ∧ Aside0 (num_FromPath.j1 kq l0 (wrap64 ((l0.length : Int) - 1)) x45_14 = some (r1, r2, r3)) ∧ Aside0 (kq ≤ k1) ∧ Aside0 (wc.heap[gb198]? = some (.cells #[.int .i64 x199000_1, .int .i64 x199001_1] 23 (0, 0))) ∧ Aside0 (Below w.heap.size w wc))
            case first =>
              have H := HC15.out
              clear HC15
              by_cases c16 : (wrap64 ((l0.length : Int) - 1)) > 0
              · rw [if_pos c16] at H
                have c16b0 : decide (0 < (wrap64 ((l0.length : Int) - 1))) = true := decide_eq_true c16
                clear c16
                (first | rw [c16b0] | (simp only [i64_w, i32_w]; rw [c16b0]) | skip)
                obtain ⟨ji17, hji17⟩ : ∃ j_ : Int, (wrap64 ((l0.length : Int) - 1)) = j_ := ⟨_, rfl⟩
                replace H : (if 0 ≤ (ji17) then (if (ji17) < (l0.length : Int) then (num_FromPath.j1 k1 l0 (ji17) ((rd l0 (ji17)) == 1)) else (none)) else (none)) = some (r1, r2, r3) := by first | (rw [hji17] at H; exact H) | (simp only [hji17] at H ⊢; exact H)
                (try rw [hji17] at c5b0)
                (try rw [hji17] at c16b0)
                have hji17w : (IntKind.i64.wrap ((l0.length : Int) - 1)) = ji17 := (i64_w _).trans hji17
                by_cases c18 : 0 ≤ (ji17)
                · rw [if_pos c18] at H
                  have c18b0 : decide (0 ≤ (ji17)) = true := decide_eq_true c18
                  clear c18
                  by_cases c19 : (ji17) < (l0.length : Int)
                  · rw [if_pos c19] at H
                    have c19b0 : decide ((ji17) < (l0.length : Int)) = true := decide_eq_true c19
                    clear c19
                    have H' := Aside0.mk H
                    clear H
                    have p200 : 0 ≤ ((ji17) : Int) := of_decide_eq_true (by first | (with_reducible assumption) | assumption)
                    have q200 : (ji17) < (l0.length : Int) := of_decide_eq_true (by first | (with_reducible assumption) | assumption)
                    obtain ⟨ad200, e200, hx200_0⟩ := Kd.at_int HR0.out (ji17) p200 q200
                    cases e200
                    replace hx200_0 := (HB.out.cell (World.block_lt_of_cell? w _ hx200_0)).trans hx200_0
                    replace p200 := eq_true p200
                    replace q200 := eq_true q200
                    go_wp2
                    go_meet
                    case rel => exact ⟨_, (((rd l0 (ji17)) == 1)), (by first | rfl | (simp; done) | (simp only [← hji17] <;> (first | rfl | simp)) | (simp [*]; done)), (by first | exact H' | exact ⟨by rw [hji17]; exact H'.out⟩), ⟨by have := HK1.out; first | omega | exact Nat.le_refl _⟩, ⟨by (with_reducible repeat (first | refine blk_drewN ?_ _ | refine blk_drew ?_ | refine blk_alloc ?_ _)); exact BK198.out⟩, ⟨by repeat (first | (with_reducible first | exact HB.out | apply below_alloc | apply pw_below_drewN | apply below_drew1 | refine below_set ?_ GE198.out) | exact HB.out)⟩⟩
                  · rw [if_neg c19] at H
                    exact absurd H (by simp)
                · rw [if_neg c18] at H
                  exact absurd H (by simp)
              · rw [if_neg c16] at H
                have c16b0 : decide (0 < (wrap64 ((l0.length : Int) - 1))) = false := decide_eq_false c16
                clear c16
                (first | rw [c16b0] | (simp only [i64_w, i32_w]; rw [c16b0]) | skip)
                have H' := Aside0.mk H
                clear H
                go_wp2
                go_meet
                case rel => exact ⟨_, (false), (by first | rfl | (simp; done) | (simp [*]; done)), H', ⟨by have := HK1.out; first | omega | exact Nat.le_refl _⟩, ⟨by (with_reducible repeat (first | refine blk_drewN ?_ _ | refine blk_drew ?_ | refine blk_alloc ?_ _)); exact BK198.out⟩, ⟨by repeat (first | (with_reducible first | exact HB.out | apply below_alloc | apply pw_below_drewN | apply below_drew1 | refine below_set ?_ GE198.out) | exact HB.out)⟩⟩
            case rest =>
              clear HC15
              try clear c1
              try clear p1
              try clear q1
              try clear hx1
              try clear c2
              try clear c2b0
              try clear c2b1
              try clear p2
              try clear q2
              try clear hx2
              try clear c5
              try clear c5b0
              try clear p6
              try clear c9
              try clear c9b0
              try clear c10
              try clear c10b0
              try clear c11
              try clear c11b0
              try clear c12
              try clear c12b0
              try clear c13
              try clear c13b0
              try clear c16
              try clear c16b0
              try clear c17
              try clear c18
              try clear c18b0
              try clear c19
              try clear c19b0
              try clear p19
              try clear q19
              try clear hx19
              try clear hcz14_0
              try clear hcz14_1
              try clear hcz4_0
              try clear hcz4_1
              try clear hcz7_0
              try clear hcz7_1
              try clear hfz14_0
              try clear hfz14_1
              try clear hfz4_0
              try clear hfz4_1
              try clear hfz7_0
              try clear hfz7_1
              try clear hx199_0
              try clear hx200_0
              try clear p199
              try clear p2
              try clear p200
              try clear p6
              try clear q199
              try clear q200
              obtain ⟨kq, x45_14, rfl, HA, HJ14, BK198, HB⟩ := hcut
              cases kq with
              | zero => exact absurd HA.out (by simp [num_FromPath.j1])
              | succ kj14 =>
                have H := HA.out
                clear HA
                simp only [num_FromPath.j1] at H
                by_cases c20 : x45_14 = true
                · subst c20
                  have H1 : (some (0, 0, 2)) = some (r1, r2, r3) := by rw [if_pos rfl] at H; exact H
                  clear H
                  have H := H1
                  clear H1
                  simp only [Option.some.injEq, Prod.mk.injEq] at H
                  obtain ⟨rfl, rfl, rfl⟩ := H
                  have hcz21_0 : wc.cell? ⟨gb198, 0, none⟩ = some (.int .i64 x199000_1) := (blk_cell BK198.out 0).trans rfl
                  have hcz21_1 : wc.cell? ⟨gb198, 1, none⟩ = some (.int .i64 x199001_1) := (blk_cell BK198.out 1).trans rfl
                  have hfz21_0 := blk_frozen BK198.out 0
                  have hfz21_1 := blk_frozen BK198.out 1
                  go_wp2
                  refine bodyPost_ret (results_ct rfl _ _ gb198 23 #[.int .i64 0, .int .i64 0] (0, 0) _ rfl (by (with_reducible repeat (first | refine blk_drewN ?_ _ | refine blk_drew ?_ | refine blk_alloc ?_ _)); refine blk_put (cs := #[.int .i64 0, .int .i64 x199001_1]) ?_ 1 _ rfl; (with_reducible repeat (first | refine blk_drewN ?_ _ | refine blk_drew ?_ | refine blk_alloc ?_ _)); refine blk_put (cs := #[.int .i64 x199000_1, .int .i64 x199001_1]) ?_ 0 _ rfl; (with_reducible repeat (first | refine blk_drewN ?_ _ | refine blk_drew ?_ | refine blk_alloc ?_ _)); exact BK198.out) Tryz.underlying23 rfl (by kernel_rfl)) rfl ?_
                  exact ⟨by first | rfl | (simp [errW_none, errW_some] <;> rfl) | (simp [*, errW_none, errW_some] <;> rfl), by repeat (first | (with_reducible first | exact HB.out | apply below_alloc | apply pw_below_drewN | apply below_drew1 | refine below_set ?_ GE198.out) | exact HB.out)⟩
                · replace c20 := Bool.eq_false_iff.mpr c20
                  subst c20
                  have H1 : (num_FromPath.l1 kj14 l0 1 0 (wrap64 ((l0.length : Int) - 1))) = some (r1, r2, r3) := by rw [if_neg (show ¬ (false = true) by decide)] at H; exact H
                  clear H
                  have H := H1
                  clear H1
                  have H' := Aside0.mk H
                  clear H
                  go_wp2
                  go_loopg [7, 8, 9] kj14 (fun kq v7 v8 v9 w' => ∃ (x7_3 : Int) (x8_3 : Int) (x9_3 : Int) (x199000_3 : Int) (x199001_3 : Int), v7 = .int .i64 x7_3 ∧ v8 = .int .i64 x8_3 ∧ v9 = .int .i64 x9_3 ∧ Aside0 (num_FromPath.l1 kq l0 x7_3 x8_3 x9_3 = some (r1, r2, r3)) ∧ Aside0 (kq ≤ kj14) ∧ Aside0 (w'.heap[gb198]? = some (.cells #[.int .i64 x199000_3, .int .i64 x199001_3] 23 (0, 0))) ∧ Aside0 (Below w.heap.size w w'))
                  case atStart => exact ⟨(1), (0), ((wrap64 ((l0.length : Int) - 1))), (x199000_1), (x199001_1), (by first | rfl | (simp; done) | (simp [*]; done)), (by first | rfl | (simp; done) | (simp [*]; done)), (by first | rfl | (simp; done) | (simp [*]; done)), H', ⟨Nat.le_refl _⟩, ⟨by (with_reducible repeat (first | refine blk_drewN ?_ _ | refine blk_drew ?_ | refine blk_alloc ?_ _)); exact BK198.out⟩, ⟨by repeat (first | (with_reducible first | exact HB.out | apply below_alloc | apply pw_below_drewN | apply below_drew1 | refine below_set ?_ GE198.out) | exact HB.out)⟩⟩
                  case round =>
                    clear H'
                    try clear c1
                    try clear p1
                    try clear q1
                    try clear hx1
                    try clear c2
                    try clear c2b0
                    try clear c2b1
                    try clear p2
                    try clear q2
                    try clear hx2
                    try clear c5
                    try clear c5b0
                    try clear p6
                    try clear c9
                    try clear c9b0
                    try clear c10
                    try clear c10b0
                    try clear c11
                    try clear c11b0
                    try clear c12
                    try clear c12b0
                    try clear c13
                    try clear c13b0
                    try clear c16
                    try clear c16b0
                    try clear c17
                    try clear c18
                    try clear c18b0
                    try clear c19
                    try clear c19b0
                    try clear p19
                    try clear q19
                    try clear hx19
                    try clear c20
                    try clear p20
                    try clear q20
                    try clear hx20
                    try clear hcz14_0
                    try clear hcz14_1
                    try clear hcz21_0
                    try clear hcz21_1
                    try clear hcz4_0
                    try clear hcz4_1
                    try clear hcz7_0
                    try clear hcz7_1
                    try clear hfz14_0
                    try clear hfz14_1
                    try clear hfz21_0
                    try clear hfz21_1
                    try clear hfz4_0
                    try clear hfz4_1
                    try clear hfz7_0
                    try clear hfz7_1
                    try clear hx199_0
                    try clear hx200_0
                    try clear p1
                    try clear p19
                    try clear p199
                    try clear p2
                    try clear p200
                    try clear p6
                    try clear q1
                    try clear q19
                    try clear q199
                    try clear q2
                    try clear q200
                    obtain ⟨x7_3, x8_3, x9_3, x199000_3, x199001_3, rfl, rfl, rfl, HA, HK3, BK198, HB⟩ := hrel
                    cases gk with
                    | zero => exact absurd HA.out (by simp [num_FromPath.l1])
                    | succ k3 =>
                      have H := HA.out
                      clear HA
                      simp only [num_FromPath.l1] at H
                      by_cases c22 : x9_3 > 0
                      · rw [if_pos c22] at H
                        have c22b0 : decide (0 < x9_3) = true := decide_eq_true c22
                        clear c22
                        by_cases c23 : 0 ≤ x9_3
                        · rw [if_pos c23] at H
                          have c23b0 : decide (0 ≤ x9_3) = true := decide_eq_true c23
                          clear c23
                          by_cases c24 : x9_3 < (l0.length : Int)
                          · rw [if_pos c24] at H
                            have c24b0 : decide (x9_3 < (l0.length : Int)) = true := decide_eq_true c24
                            clear c24
                            by_cases c25 : (rd l0 x9_3) > 1048576
                            · rw [if_pos c25] at H
                              have c25b0 : decide (1048576 < (rd l0 x9_3)) = true := decide_eq_true c25
                              clear c25
                              simp only [Option.some.injEq, Prod.mk.injEq] at H
                              obtain ⟨rfl, rfl, rfl⟩ := H
                              have p201 : 0 ≤ (x9_3 : Int) := of_decide_eq_true (by first | (with_reducible assumption) | assumption)
                              have q201 : x9_3 < (l0.length : Int) := of_decide_eq_true (by first | (with_reducible assumption) | assumption)
                              obtain ⟨ad201, e201, hx201_0⟩ := Kd.at_int HR0.out x9_3 p201 q201
                              cases e201
                              replace hx201_0 := (HB.out.cell (World.block_lt_of_cell? w _ hx201_0)).trans hx201_0
                              replace p201 := eq_true p201
                              replace q201 := eq_true q201
                              have hcz26_0 : wr.cell? ⟨gb198, 0, none⟩ = some (.int .i64 x199000_3) := (blk_cell BK198.out 0).trans rfl
                              have hcz26_1 : wr.cell? ⟨gb198, 1, none⟩ = some (.int .i64 x199001_3) := (blk_cell BK198.out 1).trans rfl
                              have hfz26_0 := blk_frozen BK198.out 0
                              have hfz26_1 := blk_frozen BK198.out 1
                              go_wp2
                              refine bodyPost_ret (results_ct rfl _ _ gb198 23 #[.int .i64 0, .int .i64 0] (0, 0) _ rfl (by (with_reducible repeat (first | refine blk_drewN ?_ _ | refine blk_drew ?_ | refine blk_alloc ?_ _)); refine blk_put (cs := #[.int .i64 0, .int .i64 x199001_3]) ?_ 1 _ rfl; (with_reducible repeat (first | refine blk_drewN ?_ _ | refine blk_drew ?_ | refine blk_alloc ?_ _)); refine blk_put (cs := #[.int .i64 x199000_3, .int .i64 x199001_3]) ?_ 0 _ rfl; (with_reducible repeat (first | refine blk_drewN ?_ _ | refine blk_drew ?_ | refine blk_alloc ?_ _)); exact BK198.out) Tryz.underlying23 rfl (by kernel_rfl)) rfl ?_
                              exact ⟨by first | rfl | (simp [errW_none, errW_some] <;> rfl) | (simp [*, errW_none, errW_some] <;> rfl), by repeat (first | (with_reducible first | exact HB.out | apply below_alloc | apply pw_below_drewN | apply below_drew1 | refine below_set ?_ GE198.out) | exact HB.out)⟩
                            · rw [if_neg c25] at H
                              have c25b0 : decide (1048576 < (rd l0 x9_3)) = false := decide_eq_false c25
                              clear c25
                              by_cases c27 : (wrap64 ((wrap64 ((rd l0 x9_3) * x7_3)) + x8_3)) > 1048576
                              · rw [if_pos c27] at H
                                have c27b0 : decide (1048576 < (wrap64 ((wrap64 ((rd l0 x9_3) * x7_3)) + x8_3))) = true := decide_eq_true c27
                                clear c27
                                simp only [Option.some.injEq, Prod.mk.injEq] at H
                                obtain ⟨rfl, rfl, rfl⟩ := H
                                have p201 : 0 ≤ (x9_3 : Int) := of_decide_eq_true (by first | (with_reducible assumption) | assumption)
                                have q201 : x9_3 < (l0.length : Int) := of_decide_eq_true (by first | (with_reducible assumption) | assumption)
                                obtain ⟨ad201, e201, hx201_0⟩ := Kd.at_int HR0.out x9_3 p201 q201
                                cases e201
                                replace hx201_0 := (HB.out.cell (World.block_lt_of_cell? w _ hx201_0)).trans hx201_0
                                replace p201 := eq_true p201
                                replace q201 := eq_true q201
                                have p202 : 0 ≤ (x9_3 : Int) := of_decide_eq_true (by first | (with_reducible assumption) | assumption)
                                have q202 : x9_3 < (l0.length : Int) := of_decide_eq_true (by first | (with_reducible assumption) | assumption)
                                obtain ⟨ad202, e202, hx202_0⟩ := Kd.at_int HR0.out x9_3 p202 q202
                                obtain rfl : ad201 = ad202 := (by injection e202)
                                replace hx202_0 := (HB.out.cell (World.block_lt_of_cell? w _ hx202_0)).trans hx202_0
                                replace p202 := eq_true p202
                                replace q202 := eq_true q202
                                have hcz28_0 : wr.cell? ⟨gb198, 0, none⟩ = some (.int .i64 x199000_3) := (blk_cell BK198.out 0).trans rfl
                                have hcz28_1 : wr.cell? ⟨gb198, 1, none⟩ = some (.int .i64 x199001_3) := (blk_cell BK198.out 1).trans rfl
                                have hfz28_0 := blk_frozen BK198.out 0
                                have hfz28_1 := blk_frozen BK198.out 1
                                go_wp2
                                refine bodyPost_ret (results_ct rfl _ _ gb198 23 #[.int .i64 0, .int .i64 0] (0, 0) _ rfl (by (with_reducible repeat (first | refine blk_drewN ?_ _ | refine blk_drew ?_ | refine blk_alloc ?_ _)); refine blk_put (cs := #[.int .i64 0, .int .i64 x199001_3]) ?_ 1 _ rfl; (with_reducible repeat (first | refine blk_drewN ?_ _ | refine blk_drew ?_ | refine blk_alloc ?_ _)); refine blk_put (cs := #[.int .i64 x199000_3, .int .i64 x199001_3]) ?_ 0 _ rfl; (with_reducible repeat (first | refine blk_drewN ?_ _ | refine blk_drew ?_ | refine blk_alloc ?_ _)); exact BK198.out) Tryz.underlying23 rfl (by kernel_rfl)) rfl ?_
                                exact ⟨by first | rfl | (simp [errW_none, errW_some] <;> rfl) | (simp [*, errW_none, errW_some] <;> rfl), by repeat (first | (with_reducible first | exact HB.out | apply below_alloc | apply pw_below_drewN | apply below_drew1 | refine below_set ?_ GE198.out) | exact HB.out)⟩
                              · rw [if_neg c27] at H
                                have c27b0 : decide (1048576 < (wrap64 ((wrap64 ((rd l0 x9_3) * x7_3)) + x8_3))) = false := decide_eq_false c27
                                clear c27
                                have H' := Aside0.mk H
                                clear H
                                have p201 : 0 ≤ (x9_3 : Int) := of_decide_eq_true (by first | (with_reducible assumption) | assumption)
                                have q201 : x9_3 < (l0.length : Int) := of_decide_eq_true (by first | (with_reducible assumption) | assumption)
                                obtain ⟨ad201, e201, hx201_0⟩ := Kd.at_int HR0.out x9_3 p201 q201
                                cases e201
                                replace hx201_0 := (HB.out.cell (World.block_lt_of_cell? w _ hx201_0)).trans hx201_0
                                replace p201 := eq_true p201
                                replace q201 := eq_true q201
                                have p202 : 0 ≤ (x9_3 : Int) := of_decide_eq_true (by first | (with_reducible assumption) | assumption)
                                have q202 : x9_3 < (l0.length : Int) := of_decide_eq_true (by first | (with_reducible assumption) | assumption)
                                obtain ⟨ad202, e202, hx202_0⟩ := Kd.at_int HR0.out x9_3 p202 q202
                                obtain rfl : ad201 = ad202 := (by injection e202)
                                replace hx202_0 := (HB.out.cell (World.block_lt_of_cell? w _ hx202_0)).trans hx202_0
                                replace p202 := eq_true p202
                                replace q202 := eq_true q202
                                go_wp2
                                go_roundg k3
                                case measure => have := HK1.out; have := HJ14.out; have := HK3.out; omega
                                case rel => exact ⟨(wrap64 ((wrap64 ((rd l0 x9_3) * x7_3)) + x8_3)), (x7_3), (wrap64 (x9_3 - 1)), (x199000_3), (x199001_3), (by first | rfl | (simp; done) | (simp [*]; done)), (by first | rfl | (simp; done) | (simp [*]; done)), (by first | rfl | (simp; done) | (simp [*]; done)), H', ⟨by have := HK1.out; have := HJ14.out; have := HK3.out; omega⟩, ⟨by (with_reducible repeat (first | refine blk_drewN ?_ _ | refine blk_drew ?_ | refine blk_alloc ?_ _)); exact BK198.out⟩, ⟨by repeat (first | (with_reducible first | exact HB.out | apply below_alloc | apply pw_below_drewN | apply below_drew1 | refine below_set ?_ GE198.out) | exact HB.out)⟩⟩
                          · rw [if_neg c24] at H
                            exact absurd H (by simp)
                        · rw [if_neg c23] at H
                          exact absurd H (by simp)
                      · rw [if_neg c22] at H
                        have c22b0 : decide (0 < x9_3) = false := decide_eq_false c22
                        clear c22
                        by_cases c29 : 0 < (l0.length : Int)
                        · rw [if_pos c29] at H
                          have c29b0 : decide (0 < (l0.length : Int)) = true := decide_eq_true c29
                          have c29b1 : decide (0 < l0.length) = true := decide_eq_true (by omega)
                          clear c29
                          have HC30 := Aside0.mk H
                          clear H
                          have p203 : 0 ≤ (0 : Int) := (by omega)
                          have q203 : 0 < (l0.length : Int) := of_decide_eq_true (by first | (with_reducible assumption) | assumption)
                          obtain ⟨ad203, e203, hx203_0⟩ := Kd.at_int HR0.out 0 p203 q203
                          cases e203
                          have qi203 : (0 < l0.length) = True := eq_true (by omega)
                          (try rw [show ((0 : Int)).toNat = 0 from rfl] at hx203_0)
                          (try rw [Addr.add_zero'] at hx203_0)
                          replace hx203_0 := (HB.out.cell (World.block_lt_of_cell? w _ hx203_0)).trans hx203_0
                          replace p203 := eq_true p203
                          replace q203 := eq_true q203
                          go_upto_region 24 with (fail)
                          go_cut [78] (fun v78 wc => ∃ (kq : Nat) (x78_29 : Bool), v78 = .bool x78_29 ∧ Aside0 (num_FromPath.j3 kq x7_3 x8_3 (rd l0 0) x78_29 = some (r1, r2, r3)) ∧ Aside0 (kq ≤ k3) ∧ Aside0 (wc.heap[gb198]? = some (.cells #[.int .i64 x199000_3, .int .i64 x199001_3] 23 (0, 0))) ∧ Aside0 (Below w.heap.size w wc))
                          case first =>
                            have H := HC30.out
                            clear HC30
                            by_cases c31 : (rd l0 0) < (-1099511627777)
                            · rw [if_pos c31] at H
                              have c31b0 : decide ((rd l0 0) < (-1099511627777)) = true := decide_eq_true c31
                              clear c31
                              (first | rw [c31b0] | (simp only [i64_w, i32_w]; rw [c31b0]) | skip)
                              have H' := Aside0.mk H
                              clear H
                              go_wp2
                              go_meet
                              case rel => exact ⟨_, (true), (by first | rfl | (simp; done) | (simp [*]; done)), H', ⟨by have := HK1.out; have := HJ14.out; have := HK3.out; first | omega | exact Nat.le_refl _⟩, ⟨by (with_reducible repeat (first | refine blk_drewN ?_ _ | refine blk_drew ?_ | refine blk_alloc ?_ _)); exact BK198.out⟩, ⟨by repeat (first | (with_reducible first | exact HB.out | apply below_alloc | apply pw_below_drewN | apply below_drew1 | refine below_set ?_ GE198.out) | exact HB.out)⟩⟩
                            · rw [if_neg c31] at H
                              have c31b0 : decide ((rd l0 0) < (-1099511627777)) = false := decide_eq_false c31
                              clear c31
                              (first | rw [c31b0] | (simp only [i64_w, i32_w]; rw [c31b0]) | skip)
                              have H' := Aside0.mk H
                              clear H
                              go_wp2
                              go_meet
                              case rel => exact ⟨_, (decide ((rd l0 0) > 1099511627776)), (by first | rfl | (simp; done) | (simp [*]; done)), H', ⟨by have := HK1.out; have := HJ14.out; have := HK3.out; first | omega | exact Nat.le_refl _⟩, ⟨by (with_reducible repeat (first | refine blk_drewN ?_ _ | refine blk_drew ?_ | refine blk_alloc ?_ _)); exact BK198.out⟩, ⟨by repeat (first | (with_reducible first | exact HB.out | apply below_alloc | apply pw_below_drewN | apply below_drew1 | refine below_set ?_ GE198.out) | exact HB.out)⟩⟩
                          case rest =>
                            clear HC30
                            try clear c1
                            try clear p1
                            try clear q1
                            try clear hx1
                            try clear c2
                            try clear c2b0
                            try clear c2b1
                            try clear p2
                            try clear q2
                            try clear hx2
                            try clear qi2
                            try clear c3
                            try clear c5
                            try clear c5b0
                            try clear p6
                            try clear c9
                            try clear c9b0
                            try clear c10
                            try clear c10b0
                            try clear c11
                            try clear c11b0
                            try clear c12
                            try clear c12b0
                            try clear c13
                            try clear c13b0
                            try clear c16
                            try clear c16b0
                            try clear c17
                            try clear c18
                            try clear c18b0
                            try clear c19
                            try clear c19b0
                            try clear p19
                            try clear q19
                            try clear hx19
                            try clear c20
                            try clear p20
                            try clear q20
                            try clear hx20
                            try clear qi20
                            try clear c22
                            try clear c22b0
                            try clear c23
                            try clear c23b0
                            try clear c24
                            try clear c24b0
                            try clear c25
                            try clear c25b0
                            try clear c27
                            try clear c27b0
                            try clear c29
                            try clear c29b0
                            try clear c29b1
                            try clear c31
                            try clear c31b0
                            try clear hcz14_0
                            try clear hcz14_1
                            try clear hcz21_0
                            try clear hcz21_1
                            try clear hcz26_0
                            try clear hcz26_1
                            try clear hcz28_0
                            try clear hcz28_1
                            try clear hcz4_0
                            try clear hcz4_1
                            try clear hcz7_0
                            try clear hcz7_1
                            try clear hfz14_0
                            try clear hfz14_1
                            try clear hfz21_0
                            try clear hfz21_1
                            try clear hfz26_0
                            try clear hfz26_1
                            try clear hfz28_0
                            try clear hfz28_1
                            try clear hfz4_0
                            try clear hfz4_1
                            try clear hfz7_0
                            try clear hfz7_1
                            try clear hx199_0
                            try clear hx200_0
                            try clear hx201_0
                            try clear hx202_0
                            try clear hx203_0
                            try clear p1
                            try clear p19
                            try clear p199
                            try clear p2
                            try clear p20
                            try clear p200
                            try clear p201
                            try clear p202
                            try clear p203
                            try clear p6
                            try clear q1
                            try clear q19
                            try clear q199
                            try clear q2
                            try clear q20
                            try clear q200
                            try clear q201
                            try clear q202
                            try clear q203
                            obtain ⟨kq, x78_29, rfl, HA, HJ29, BK198, HB⟩ := hcut
                            cases kq with
                            | zero => exact absurd HA.out (by simp [num_FromPath.j3])
                            | succ kj29 =>
                              have H := HA.out
                              clear HA
                              simp only [num_FromPath.j3] at H
                              by_cases c32 : x78_29 = true
                              · subst c32
                                have H1 : (some (0, 0, 4)) = some (r1, r2, r3) := by rw [if_pos rfl] at H; exact H
                                clear H
                                have H := H1
                                clear H1
                                simp only [Option.some.injEq, Prod.mk.injEq] at H
                                obtain ⟨rfl, rfl, rfl⟩ := H
                                have hcz33_0 : wc.cell? ⟨gb198, 0, none⟩ = some (.int .i64 x199000_3) := (blk_cell BK198.out 0).trans rfl
                                have hcz33_1 : wc.cell? ⟨gb198, 1, none⟩ = some (.int .i64 x199001_3) := (blk_cell BK198.out 1).trans rfl
                                have hfz33_0 := blk_frozen BK198.out 0
                                have hfz33_1 := blk_frozen BK198.out 1
                                go_wp2
                                refine bodyPost_ret (results_ct rfl _ _ gb198 23 #[.int .i64 0, .int .i64 0] (0, 0) _ rfl (by (with_reducible repeat (first | refine blk_drewN ?_ _ | refine blk_drew ?_ | refine blk_alloc ?_ _)); refine blk_put (cs := #[.int .i64 0, .int .i64 x199001_3]) ?_ 1 _ rfl; (with_reducible repeat (first | refine blk_drewN ?_ _ | refine blk_drew ?_ | refine blk_alloc ?_ _)); refine blk_put (cs := #[.int .i64 x199000_3, .int .i64 x199001_3]) ?_ 0 _ rfl; (with_reducible repeat (first | refine blk_drewN ?_ _ | refine blk_drew ?_ | refine blk_alloc ?_ _)); exact BK198.out) Tryz.underlying23 rfl (by kernel_rfl)) rfl ?_
                                exact ⟨by first | rfl | (simp [errW_none, errW_some] <;> rfl) | (simp [*, errW_none, errW_some] <;> rfl), by repeat (first | (with_reducible first | exact HB.out | apply below_alloc | apply pw_below_drewN | apply below_drew1 | refine below_set ?_ GE198.out) | exact HB.out)⟩
                              · replace c32 := Bool.eq_false_iff.mpr c32
                                subst c32
                                have H1 : ((num_Valid.f kj29 (wrap64 ((wrap64 ((rd l0 0) * x7_3)) + x8_3)) x7_3).bind fun t205 => (if t205 = true then (some (wrap64 ((wrap64 ((rd l0 0) * x7_3)) + x8_3), x7_3, 0)) else (some (0, 0, 4)))) = some (r1, r2, r3) := by rw [if_neg (show ¬ (false = true) by decide)] at H; exact H
                                clear H
                                have H := H1
                                clear H1
                                replace H := Option.bind_eq_some_iff.mp H
                                obtain ⟨t205, A340, H⟩ := H
                                replace H : (if t205 = true then (some (wrap64 ((wrap64 ((rd l0 0) * x7_3)) + x8_3), x7_3, 0)) else (some (0, 0, 4))) = some (r1, r2, r3) := H
                                have A34 := Aside0.mk A340
                                clear A340
                                by_cases c35 : t205 = true
                                · subst c35
                                  have H1 : (some (wrap64 ((wrap64 ((rd l0 0) * x7_3)) + x8_3), x7_3, 0)) = some (r1, r2, r3) := by rw [if_pos rfl] at H; exact H
                                  clear H
                                  have H := H1
                                  clear H1
                                  simp only [Option.some.injEq, Prod.mk.injEq] at H
                                  obtain ⟨rfl, rfl, rfl⟩ := H
                                  go_wp2_with (first | ((with_reducible refine gate_dst (N := 11) rfl ?_); refine box_event ?hg (N := 11) ?hd (cs := #[.int .i64 0, .int .i64 0]) (t := 23) ?hr ?_; (case hd => rfl); (case hg => rfl); (case hr => first | (go_simp; done) | (go_simp; rfl)); intro gb204 hg w36 hbox hb; have n0_ := Aside0.mk (blk_below (g := gb198) (o := .cells #[.int .i64 x199000_3, .int .i64 x199001_3] 23 (0, 0)) (by (with_reducible repeat (first | refine blk_drewN ?_ _ | refine blk_drew ?_ | refine blk_alloc ?_ _)); exact BK198.out) hb); have n1_ := Aside0.mk (below_step (by repeat (first | (with_reducible first | exact HB.out | apply below_alloc | apply pw_below_drewN | apply below_drew1 | refine below_set ?_ GE198.out) | exact HB.out)) hb); have n2_ := Aside0.mk (hbox); have n3_ := Aside0.mk ((by rw [hg]; exact (below_size (by repeat (first | (with_reducible first | exact HB.out | apply below_alloc | apply pw_below_drewN | apply below_drew1 | refine below_set ?_ GE198.out) | exact HB.out))) : w.heap.size ≤ gb204)); have n4_ := Aside0.mk ((by rw [hg]; exact (below_size (by repeat (first | (with_reducible first | exact HB.out | apply below_alloc | apply pw_below_drewN | apply below_drew1 | refine below_set ?_ GE198.out) | exact HB.out))) : w.heap.size ≤ gb204)); have n5_ := Aside0.mk ((by rw [hg]; exact Nat.ne_of_lt (blk_lt (g := gb198) (o := .cells #[.int .i64 x199000_3, .int .i64 x199001_3] 23 (0, 0)) (by (with_reducible repeat (first | refine blk_drewN ?_ _ | refine blk_drew ?_ | refine blk_alloc ?_ _)); exact BK198.out)) : gb198 ≠ gb204)); have n6_ := Aside0.mk ((by rw [hg]; exact Nat.ne_of_gt (blk_lt (g := gb198) (o := .cells #[.int .i64 x199000_3, .int .i64 x199001_3] 23 (0, 0)) (by (with_reducible repeat (first | refine blk_drewN ?_ _ | refine blk_drew ?_ | refine blk_alloc ?_ _)); exact BK198.out)) : gb204 ≠ gb198)); clear BK198; clear HB; have BK198 := n0_; have HB := n1_; have BK204 := n2_; have GW204 := n3_; have GE204 := n4_; have NB198_204 := n5_; have NB204_198 := n6_; clear n0_ n1_ n2_ n3_ n4_ n5_ n6_; clear hb hbox hg; have hnb37 := NB204_198.out; have hnc37 := NB198_204.out; have hcz38_0 : w36.cell? ⟨gb204, 0, none⟩ = some (.int .i64 0) := (blk_cell BK204.out 0).trans rfl; have hcz38_1 : w36.cell? ⟨gb204, 1, none⟩ = some (.int .i64 0) := (blk_cell BK204.out 1).trans rfl; have hfz38_0 := blk_frozen BK204.out 0; have hfz38_1 := blk_frozen BK204.out 1) | ((with_reducible refine gate_callee (f := 16) rfl ?_); refine goesL_ (some 88) rfl rfl Tryz.func16 (by kernel_rfl) rfl #[.agg #[.int .i64 (wrap64 ((wrap64 ((rd l0 0) * x7_3)) + x8_3)), .int .i64 x7_3]] rfl (by (try simp only [List.map_toArray, List.map_cons, List.map_nil]); first | done | rfl | (simp only [List.length_drop, List.length_take]; rfl)) ?_; (with_reducible refine (num_Valid.calls kj29 (wrap64 ((wrap64 ((rd l0 0) * x7_3)) + x8_3)) x7_3 true _ A34.out).mono ?_); rintro e w39 ⟨rfl, hb⟩; refine ⟨_, rfl, ?_⟩; have n0_ := Aside0.mk (blk_below (g := gb198) (o := .cells #[.int .i64 x199000_3, .int .i64 x199001_3] 23 (0, 0)) (by (with_reducible repeat (first | refine blk_drewN ?_ _ | refine blk_drew ?_ | refine blk_alloc ?_ _)); refine blk_far ?_ NB198_204.out _; (with_reducible repeat (first | refine blk_drewN ?_ _ | refine blk_drew ?_ | refine blk_alloc ?_ _)); refine blk_far ?_ NB198_204.out _; (with_reducible repeat (first | refine blk_drewN ?_ _ | refine blk_drew ?_ | refine blk_alloc ?_ _)); exact BK198.out) hb); have n1_ := Aside0.mk (blk_below (g := gb204) (o := .cells #[.int .i64 (wrap64 ((wrap64 ((rd l0 0) * x7_3)) + x8_3)), .int .i64 x7_3] 23 (0, 0)) (by (with_reducible repeat (first | refine blk_drewN ?_ _ | refine blk_drew ?_ | refine blk_alloc ?_ _)); refine blk_put (cs := #[.int .i64 (wrap64 ((wrap64 ((rd l0 0) * x7_3)) + x8_3)), .int .i64 0]) ?_ 1 _ rfl; (with_reducible repeat (first | refine blk_drewN ?_ _ | refine blk_drew ?_ | refine blk_alloc ?_ _)); refine blk_put (cs := #[.int .i64 0, .int .i64 0]) ?_ 0 _ rfl; (with_reducible repeat (first | refine blk_drewN ?_ _ | refine blk_drew ?_ | refine blk_alloc ?_ _)); exact BK204.out) hb); have n2_ := Aside0.mk (below_step (by repeat (first | (with_reducible first | exact HB.out | apply below_alloc | apply pw_below_drewN | apply below_drew1 | refine below_set ?_ GE198.out | refine below_set ?_ GE204.out) | exact HB.out)) hb); clear BK198; clear BK204; clear HB; have BK198 := n0_; have BK204 := n1_; have HB := n2_; clear n0_ n1_ n2_; (try clear hb); (try clear hb2); (try clear hk); (try clear hi); have hcz40_0 : w39.cell? ⟨gb204, 0, none⟩ = some (.int .i64 (wrap64 ((wrap64 ((rd l0 0) * x7_3)) + x8_3))) := (blk_cell BK204.out 0).trans rfl; have hcz40_1 : w39.cell? ⟨gb204, 1, none⟩ = some (.int .i64 x7_3) := (blk_cell BK204.out 1).trans rfl; have hfz40_0 := blk_frozen BK204.out 0; have hfz40_1 := blk_frozen BK204.out 1; have hcz41_0 : w39.cell? ⟨gb198, 0, none⟩ = some (.int .i64 x199000_3) := (blk_cell BK198.out 0).trans rfl; have hcz41_1 : w39.cell? ⟨gb198, 1, none⟩ = some (.int .i64 x199001_3) := (blk_cell BK198.out 1).trans rfl; have hfz41_0 := blk_frozen BK198.out 0; have hfz41_1 := blk_frozen BK198.out 1))
                                  refine bodyPost_ret (results_ct rfl _ _ gb198 23 #[.int .i64 (wrap64 ((wrap64 ((rd l0 0) * x7_3)) + x8_3)), .int .i64 x7_3] (0, 0) _ rfl (by (with_reducible repeat (first | refine blk_drewN ?_ _ | refine blk_drew ?_ | refine blk_alloc ?_ _)); refine blk_put (cs := #[.int .i64 (wrap64 ((wrap64 ((rd l0 0) * x7_3)) + x8_3)), .int .i64 x199001_3]) ?_ 1 _ rfl; (with_reducible repeat (first | refine blk_drewN ?_ _ | refine blk_drew ?_ | refine blk_alloc ?_ _)); refine blk_put (cs := #[.int .i64 x199000_3, .int .i64 x199001_3]) ?_ 0 _ rfl; (with_reducible repeat (first | refine blk_drewN ?_ _ | refine blk_drew ?_ | refine blk_alloc ?_ _)); exact BK198.out) Tryz.underlying23 rfl (by kernel_rfl)) rfl ?_
                                  exact ⟨by first | rfl | (simp [errW_none, errW_some] <;> rfl) | (simp [*, errW_none, errW_some] <;> rfl), by repeat (first | (with_reducible first | exact HB.out | apply below_alloc | apply pw_below_drewN | apply below_drew1 | refine below_set ?_ GE198.out | refine below_set ?_ GE204.out) | exact HB.out)⟩
                                · replace c35 := Bool.eq_false_iff.mpr c35
                                  subst c35
                                  have H1 : (some (0, 0, 4)) = some (r1, r2, r3) := by rw [if_neg (show ¬ (false = true) by decide)] at H; exact H
                                  clear H
                                  have H := H1
                                  clear H1
                                  simp only [Option.some.injEq, Prod.mk.injEq] at H
                                  obtain ⟨rfl, rfl, rfl⟩ := H
                                  go_wp2_with (first | ((with_reducible refine gate_dst (N := 11) rfl ?_); refine box_event ?hg (N := 11) ?hd (cs := #[.int .i64 0, .int .i64 0]) (t := 23) ?hr ?_; (case hd => rfl); (case hg => rfl); (case hr => first | (go_simp; done) | (go_simp; rfl)); intro gb204 hg w42 hbox hb; have n0_ := Aside0.mk (blk_below (g := gb198) (o := .cells #[.int .i64 x199000_3, .int .i64 x199001_3] 23 (0, 0)) (by (with_reducible repeat (first | refine blk_drewN ?_ _ | refine blk_drew ?_ | refine blk_alloc ?_ _)); exact BK198.out) hb); have n1_ := Aside0.mk (below_step (by repeat (first | (with_reducible first | exact HB.out | apply below_alloc | apply pw_below_drewN | apply below_drew1 | refine below_set ?_ GE198.out) | exact HB.out)) hb); have n2_ := Aside0.mk (hbox); have n3_ := Aside0.mk ((by rw [hg]; exact (below_size (by repeat (first | (with_reducible first | exact HB.out | apply below_alloc | apply pw_below_drewN | apply below_drew1 | refine below_set ?_ GE198.out) | exact HB.out))) : w.heap.size ≤ gb204)); have n4_ := Aside0.mk ((by rw [hg]; exact (below_size (by repeat (first | (with_reducible first | exact HB.out | apply below_alloc | apply pw_below_drewN | apply below_drew1 | refine below_set ?_ GE198.out) | exact HB.out))) : w.heap.size ≤ gb204)); have n5_ := Aside0.mk ((by rw [hg]; exact Nat.ne_of_lt (blk_lt (g := gb198) (o := .cells #[.int .i64 x199000_3, .int .i64 x199001_3] 23 (0, 0)) (by (with_reducible repeat (first | refine blk_drewN ?_ _ | refine blk_drew ?_ | refine blk_alloc ?_ _)); exact BK198.out)) : gb198 ≠ gb204)); have n6_ := Aside0.mk ((by rw [hg]; exact Nat.ne_of_gt (blk_lt (g := gb198) (o := .cells #[.int .i64 x199000_3, .int .i64 x199001_3] 23 (0, 0)) (by (with_reducible repeat (first | refine blk_drewN ?_ _ | refine blk_drew ?_ | refine blk_alloc ?_ _)); exact BK198.out)) : gb204 ≠ gb198)); clear BK198; clear HB; have BK198 := n0_; have HB := n1_; have BK204 := n2_; have GW204 := n3_; have GE204 := n4_; have NB198_204 := n5_; have NB204_198 := n6_; clear n0_ n1_ n2_ n3_ n4_ n5_ n6_; clear hb hbox hg; have hnb43 := NB204_198.out; have hnc43 := NB198_204.out; have hcz44_0 : w42.cell? ⟨gb204, 0, none⟩ = some (.int .i64 0) := (blk_cell BK204.out 0).trans rfl; have hcz44_1 : w42.cell? ⟨gb204, 1, none⟩ = some (.int .i64 0) := (blk_cell BK204.out 1).trans rfl; have hfz44_0 := blk_frozen BK204.out 0; have hfz44_1 := blk_frozen BK204.out 1) | ((with_reducible refine gate_callee (f := 16) rfl ?_); refine goesL_ (some 88) rfl rfl Tryz.func16 (by kernel_rfl) rfl #[.agg #[.int .i64 (wrap64 ((wrap64 ((rd l0 0) * x7_3)) + x8_3)), .int .i64 x7_3]] rfl (by (try simp only [List.map_toArray, List.map_cons, List.map_nil]); first | done | rfl | (simp only [List.length_drop, List.length_take]; rfl)) ?_; (with_reducible refine (num_Valid.calls kj29 (wrap64 ((wrap64 ((rd l0 0) * x7_3)) + x8_3)) x7_3 false _ A34.out).mono ?_); rintro e w45 ⟨rfl, hb⟩; refine ⟨_, rfl, ?_⟩; have n0_ := Aside0.mk (blk_below (g := gb198) (o := .cells #[.int .i64 x199000_3, .int .i64 x199001_3] 23 (0, 0)) (by (with_reducible repeat (first | refine blk_drewN ?_ _ | refine blk_drew ?_ | refine blk_alloc ?_ _)); refine blk_far ?_ NB198_204.out _; (with_reducible repeat (first | refine blk_drewN ?_ _ | refine blk_drew ?_ | refine blk_alloc ?_ _)); refine blk_far ?_ NB198_204.out _; (with_reducible repeat (first | refine blk_drewN ?_ _ | refine blk_drew ?_ | refine blk_alloc ?_ _)); exact BK198.out) hb); have n1_ := Aside0.mk (blk_below (g := gb204) (o := .cells #[.int .i64 (wrap64 ((wrap64 ((rd l0 0) * x7_3)) + x8_3)), .int .i64 x7_3] 23 (0, 0)) (by (with_reducible repeat (first | refine blk_drewN ?_ _ | refine blk_drew ?_ | refine blk_alloc ?_ _)); refine blk_put (cs := #[.int .i64 (wrap64 ((wrap64 ((rd l0 0) * x7_3)) + x8_3)), .int .i64 0]) ?_ 1 _ rfl; (with_reducible repeat (first | refine blk_drewN ?_ _ | refine blk_drew ?_ | refine blk_alloc ?_ _)); refine blk_put (cs := #[.int .i64 0, .int .i64 0]) ?_ 0 _ rfl; (with_reducible repeat (first | refine blk_drewN ?_ _ | refine blk_drew ?_ | refine blk_alloc ?_ _)); exact BK204.out) hb); have n2_ := Aside0.mk (below_step (by repeat (first | (with_reducible first | exact HB.out | apply below_alloc | apply pw_below_drewN | apply below_drew1 | refine below_set ?_ GE198.out | refine below_set ?_ GE204.out) | exact HB.out)) hb); clear BK198; clear BK204; clear HB; have BK198 := n0_; have BK204 := n1_; have HB := n2_; clear n0_ n1_ n2_; (try clear hb); (try clear hb2); (try clear hk); (try clear hi); have hcz46_0 : w45.cell? ⟨gb198, 0, none⟩ = some (.int .i64 x199000_3) := (blk_cell BK198.out 0).trans rfl; have hcz46_1 : w45.cell? ⟨gb198, 1, none⟩ = some (.int .i64 x199001_3) := (blk_cell BK198.out 1).trans rfl; have hfz46_0 := blk_frozen BK198.out 0; have hfz46_1 := blk_frozen BK198.out 1))
                                  refine bodyPost_ret (results_ct rfl _ _ gb198 23 #[.int .i64 0, .int .i64 0] (0, 0) _ rfl (by (with_reducible repeat (first | refine blk_drewN ?_ _ | refine blk_drew ?_ | refine blk_alloc ?_ _)); refine blk_put (cs := #[.int .i64 0, .int .i64 x199001_3]) ?_ 1 _ rfl; (with_reducible repeat (first | refine blk_drewN ?_ _ | refine blk_drew ?_ | refine blk_alloc ?_ _)); refine blk_put (cs := #[.int .i64 x199000_3, .int .i64 x199001_3]) ?_ 0 _ rfl; (with_reducible repeat (first | refine blk_drewN ?_ _ | refine blk_drew ?_ | refine blk_alloc ?_ _)); exact BK198.out) Tryz.underlying23 rfl (by kernel_rfl)) rfl ?_
                                  exact ⟨by first | rfl | (simp [errW_none, errW_some] <;> rfl) | (simp [*, errW_none, errW_some] <;> rfl), by repeat (first | (with_reducible first | exact HB.out | apply below_alloc | apply pw_below_drewN | apply below_drew1 | refine below_set ?_ GE198.out | refine below_set ?_ GE204.out) | exact HB.out)⟩
                        · rw [if_neg c29] at H
                          exact absurd H (by simp)
end Go.Proofs.YtdjnneflpkllmaaGreatDoor.Q
