/- Part 5 of the proof of NumField. -/
import Derived.Test.YtdjnneflpkllmaaDoorMNumField4

namespace Go.Proofs.YtdjnneflpkllmaaDoor.Q
open Go.RowKit Go.Proofs.YtdjnneflpkllmaaDoorW.PrintWords Go.Proofs.YtdjnneflpkllmaaDoorW.PrintLast Go.Proofs.YtdjnneflpkllmaaDoorW.PrintMore
attribute [local go_sem] max2_int min2_int max_two min_two max_three min_three max_four min_four   -- for this text's walks alone
set_option linter.unusedVariables false
set_option linter.unusedSimpArgs false
attribute [local go_sem high] eqA23
set_option maxHeartbeats 8000000 in
set_option maxRecDepth 100000 in
theorem merinolaw01_NumField.calls (k : Nat) (a0_0 : Int) (a0_1 : Int) (a1_0 : Int) (a1_1 : Int) (a2_0 : Int) (a2_1 : Int) (r : Bool) (w : World) (h : merinolaw01_NumField.f k a0_0 a0_1 a1_0 a1_1 a2_0 a2_1 = some r) :
    Calls Tryd.prog 14 #[.agg #[.int .i64 a0_0, .int .i64 a0_1], .agg #[.int .i64 a1_0, .int .i64 a1_1], .agg #[.int .i64 a2_0, .int .i64 a2_1]] w fun e w' => e = .returned (.bool r) ∧ Below w.heap.size w w' := by
  have hu23 := Tryd.underlying23
  have HB := Aside0.mk (Below.refl w.heap.size w)
  have H : ((num_Add.f k a0_0 a0_1 a1_0 a1_1).bind fun bt1128 => ((num_Add.f k a1_0 a1_1 a0_0 a0_1).bind fun bt1132 => (if (!(bt1128.1 == bt1132.1) || (!(bt1128.2.1 == bt1132.2.1))) = true then (merinolaw01_NumField.j0 k bt1132.2.2 true a0_0 a0_1 a1_0 a1_1 a2_0 a2_1 bt1128.1 bt1128.2.1) else (merinolaw01_NumField.j0 k bt1132.2.2 (bt1128.2.2 != bt1132.2.2) a0_0 a0_1 a1_0 a1_1 a2_0 a2_1 bt1128.1 bt1128.2.1)))) = some r := h
  clear h
  replace H := Option.bind_eq_some_iff.mp H
  obtain ⟨⟨t1128, t1129, t1130⟩, A40, H⟩ := H
  replace H : ((num_Add.f k a1_0 a1_1 a0_0 a0_1).bind fun bt1132 => (if (!(t1128 == bt1132.1) || (!(t1129 == bt1132.2.1))) = true then (merinolaw01_NumField.j0 k bt1132.2.2 true a0_0 a0_1 a1_0 a1_1 a2_0 a2_1 t1128 t1129) else (merinolaw01_NumField.j0 k bt1132.2.2 (t1130 != bt1132.2.2) a0_0 a0_1 a1_0 a1_1 a2_0 a2_1 t1128 t1129))) = some r := H
  have A4 := Aside0.mk A40
  clear A40
  replace H := Option.bind_eq_some_iff.mp H
  obtain ⟨⟨t1132, t1133, t1134⟩, A50, H⟩ := H
  replace H : (if (!(t1128 == t1132) || (!(t1129 == t1133))) = true then (merinolaw01_NumField.j0 k t1134 true a0_0 a0_1 a1_0 a1_1 a2_0 a2_1 t1128 t1129) else (merinolaw01_NumField.j0 k t1134 (t1130 != t1134) a0_0 a0_1 a1_0 a1_1 a2_0 a2_1 t1128 t1129)) = some r := H
  have A5 := Aside0.mk A50
  clear A50
  have HC6 := Aside0.mk H
  clear H
  go_enter Tryd.func14, Tryd.ntmps14
  go_upto_region 3 with (first | ((with_reducible refine gate_dst (N := 3) rfl ?_); refine qx_ 3 #[.int .i64 a0_0, .int .i64 a0_1] 23 ?hr ?_; (case hr => first | (go_simp; done) | (go_simp; rfl)); intro gb1125 hg w7 hbox hb; have n0_ := Aside0.mk (below_step (q0_ HB.out) hb); have n1_ := Aside0.mk (hbox); have n2_ := Aside0.mk (qs_ hg (q0_ HB.out) : w.heap.size ≤ gb1125); have n3_ := n2_; clear HB; have HB := n0_; have BK1125 := n1_; have GW1125 := n2_; have GE1125 := n3_; clear n0_ n1_ n2_ n3_; clear hb hbox hg) | ((with_reducible refine gate_dst (N := 4) rfl ?_); refine qx_ 4 #[.int .i64 a1_0, .int .i64 a1_1] 23 ?hr ?_; (case hr => first | (go_simp; done) | (go_simp; rfl)); intro gb1126 hg w8 hbox hb; have n0_ := Aside0.mk (qk_ BK1125.out hb); have n1_ := Aside0.mk (below_step (q1_ HB.out GE1125.out) hb); have n2_ := Aside0.mk (hbox); have n3_ := Aside0.mk (qs_ hg (q1_ HB.out GE1125.out) : w.heap.size ≤ gb1126); have n4_ := n3_; have n5_ := Aside0.mk (qn_ hg BK1125.out); have n6_ := Aside0.mk (Ne.symm (qn_ hg BK1125.out)); clear BK1125; clear HB; have BK1125 := n0_; have HB := n1_; have BK1126 := n2_; have GW1126 := n3_; have GE1126 := n4_; have NB1125_1126 := n5_; have NB1126_1125 := n6_; clear n0_ n1_ n2_ n3_ n4_ n5_ n6_; clear hb hbox hg) | ((with_reducible refine gate_dst (N := 5) rfl ?_); refine qx_ 5 #[.int .i64 a2_0, .int .i64 a2_1] 23 ?hr ?_; (case hr => first | (go_simp; done) | (go_simp; rfl)); intro gb1127 hg w9 hbox hb; have n0_ := Aside0.mk (qk_ BK1125.out hb); have n1_ := Aside0.mk (qk_ BK1126.out hb); have n2_ := Aside0.mk (below_step (q2_ HB.out GE1125.out GE1126.out) hb); have n3_ := Aside0.mk (hbox); have n4_ := Aside0.mk (qs_ hg (q2_ HB.out GE1125.out GE1126.out) : w.heap.size ≤ gb1127); have n5_ := n4_; have n6_ := Aside0.mk (qn_ hg BK1125.out); have n7_ := Aside0.mk (Ne.symm (qn_ hg BK1125.out)); have n8_ := Aside0.mk (qn_ hg BK1126.out); have n9_ := Aside0.mk (Ne.symm (qn_ hg BK1126.out)); clear BK1125; clear BK1126; clear HB; have BK1125 := n0_; have BK1126 := n1_; have HB := n2_; have BK1127 := n3_; have GW1127 := n4_; have GE1127 := n5_; have NB1125_1127 := n6_; have NB1127_1125 := n7_; have NB1126_1127 := n8_; have NB1127_1126 := n9_; clear n0_ n1_ n2_ n3_ n4_ n5_ n6_ n7_ n8_ n9_; clear hb hbox hg; have hnb10 := NB1125_1126.out; have hnc10 := NB1126_1125.out; have hnb11 := NB1125_1127.out; have hnc11 := NB1127_1125.out; have hcz12_0 : w9.cell? ⟨gb1125, 0, none⟩ = some (.int .i64 a0_0) := (blk_cell BK1125.out 0).trans rfl; have hcz12_1 : w9.cell? ⟨gb1125, 1, none⟩ = some (.int .i64 a0_1) := (blk_cell BK1125.out 1).trans rfl; have hfz12_0 := blk_frozen BK1125.out 0; have hfz12_1 := blk_frozen BK1125.out 1; have hnb13 := NB1126_1127.out; have hnc13 := NB1127_1126.out; have hcz14_0 : w9.cell? ⟨gb1126, 0, none⟩ = some (.int .i64 a1_0) := (blk_cell BK1126.out 0).trans rfl; have hcz14_1 : w9.cell? ⟨gb1126, 1, none⟩ = some (.int .i64 a1_1) := (blk_cell BK1126.out 1).trans rfl; have hfz14_0 := blk_frozen BK1126.out 0; have hfz14_1 := blk_frozen BK1126.out 1) | ((with_reducible refine gate_callee (f := 52) rfl ?_); refine goesL_ (some 27) rfl rfl Tryd.func52 (by kernel_rfl) rfl #[.agg #[.int .i64 a0_0, .int .i64 a0_1], .agg #[.int .i64 a1_0, .int .i64 a1_1]] rfl qe_ ?_; (with_reducible refine (num_Add.calls k a0_0 a0_1 a1_0 a1_1 t1128 t1129 t1130 _ A4.out).mono ?_); rintro e w15 ⟨rfl, hb⟩; refine ⟨_, rfl, ?_⟩; have n0_ := Aside0.mk (qk_ BK1125.out hb); have n1_ := Aside0.mk (qk_ BK1126.out hb); have n2_ := Aside0.mk (qk_ BK1127.out hb); have n3_ := Aside0.mk (below_step (q3_ HB.out GE1125.out GE1126.out GE1127.out) hb); clear BK1125; clear BK1126; clear BK1127; clear HB; have BK1125 := n0_; have BK1126 := n1_; have BK1127 := n2_; have HB := n3_; clear n0_ n1_ n2_ n3_; (try clear hb); (try clear hb2); (try clear hk); (try clear hi)) | ((with_reducible refine gate_dst (N := 7) rfl ?_); refine qx_ 7 #[.int .i64 0, .int .i64 0] 23 ?hr ?_; (case hr => first | (go_simp; done) | (go_simp; rfl)); intro gb1131 hg w16 hbox hb; have n0_ := Aside0.mk (qk_ BK1125.out hb); have n1_ := Aside0.mk (qk_ BK1126.out hb); have n2_ := Aside0.mk (qk_ BK1127.out hb); have n3_ := Aside0.mk (below_step (q3_ HB.out GE1125.out GE1126.out GE1127.out) hb); have n4_ := Aside0.mk (hbox); have n5_ := Aside0.mk (qs_ hg (q3_ HB.out GE1125.out GE1126.out GE1127.out) : w.heap.size ≤ gb1131); have n6_ := n5_; have n7_ := Aside0.mk (qn_ hg BK1125.out); have n8_ := Aside0.mk (Ne.symm (qn_ hg BK1125.out)); have n9_ := Aside0.mk (qn_ hg BK1126.out); have n10_ := Aside0.mk (Ne.symm (qn_ hg BK1126.out)); have n11_ := Aside0.mk (qn_ hg BK1127.out); have n12_ := Aside0.mk (Ne.symm (qn_ hg BK1127.out)); clear BK1125; clear BK1126; clear BK1127; clear HB; have BK1125 := n0_; have BK1126 := n1_; have BK1127 := n2_; have HB := n3_; have BK1131 := n4_; have GW1131 := n5_; have GE1131 := n6_; have NB1125_1131 := n7_; have NB1131_1125 := n8_; have NB1126_1131 := n9_; have NB1131_1126 := n10_; have NB1127_1131 := n11_; have NB1131_1127 := n12_; clear n0_ n1_ n2_ n3_ n4_ n5_ n6_ n7_ n8_ n9_ n10_ n11_ n12_; clear hb hbox hg; have hnb17 := NB1131_1125.out; have hnc17 := NB1125_1131.out; have hnb18 := NB1131_1126.out; have hnc18 := NB1126_1131.out; have hnb19 := NB1131_1127.out; have hnc19 := NB1127_1131.out; have hcz20_0 : w16.cell? ⟨gb1131, 0, none⟩ = some (.int .i64 0) := (blk_cell BK1131.out 0).trans rfl; have hcz20_1 : w16.cell? ⟨gb1131, 1, none⟩ = some (.int .i64 0) := (blk_cell BK1131.out 1).trans rfl; have hfz20_0 := blk_frozen BK1131.out 0; have hfz20_1 := blk_frozen BK1131.out 1; have hcz21_0 : w16.cell? ⟨gb1126, 0, none⟩ = some (.int .i64 a1_0) := (blk_cell BK1126.out 0).trans rfl; have hcz21_1 : w16.cell? ⟨gb1126, 1, none⟩ = some (.int .i64 a1_1) := (blk_cell BK1126.out 1).trans rfl; have hfz21_0 := blk_frozen BK1126.out 0; have hfz21_1 := blk_frozen BK1126.out 1; have hcz22_0 : w16.cell? ⟨gb1125, 0, none⟩ = some (.int .i64 a0_0) := (blk_cell BK1125.out 0).trans rfl; have hcz22_1 : w16.cell? ⟨gb1125, 1, none⟩ = some (.int .i64 a0_1) := (blk_cell BK1125.out 1).trans rfl; have hfz22_0 := blk_frozen BK1125.out 0; have hfz22_1 := blk_frozen BK1125.out 1) | ((with_reducible refine gate_callee (f := 52) rfl ?_); refine goesL_ (some 33) rfl rfl Tryd.func52 (by kernel_rfl) rfl #[.agg #[.int .i64 a1_0, .int .i64 a1_1], .agg #[.int .i64 a0_0, .int .i64 a0_1]] rfl qe_ ?_; (with_reducible refine (num_Add.calls k a1_0 a1_1 a0_0 a0_1 t1132 t1133 t1134 _ A5.out).mono ?_); rintro e w23 ⟨rfl, hb⟩; refine ⟨_, rfl, ?_⟩; have n0_ := Aside0.mk (blk_below (g := gb1125) (o := .cells #[.int .i64 a0_0, .int .i64 a0_1] 23 (0, 0)) (by (with_reducible repeat (first | refine blk_drewN ?_ _ | refine blk_drew ?_ | refine blk_alloc ?_ _)); refine blk_far ?_ NB1125_1131.out _; (with_reducible repeat (first | refine blk_drewN ?_ _ | refine blk_drew ?_ | refine blk_alloc ?_ _)); refine blk_far ?_ NB1125_1131.out _; (with_reducible repeat (first | refine blk_drewN ?_ _ | refine blk_drew ?_ | refine blk_alloc ?_ _)); exact BK1125.out) hb); have n1_ := Aside0.mk (blk_below (g := gb1126) (o := .cells #[.int .i64 a1_0, .int .i64 a1_1] 23 (0, 0)) (by (with_reducible repeat (first | refine blk_drewN ?_ _ | refine blk_drew ?_ | refine blk_alloc ?_ _)); refine blk_far ?_ NB1126_1131.out _; (with_reducible repeat (first | refine blk_drewN ?_ _ | refine blk_drew ?_ | refine blk_alloc ?_ _)); refine blk_far ?_ NB1126_1131.out _; (with_reducible repeat (first | refine blk_drewN ?_ _ | refine blk_drew ?_ | refine blk_alloc ?_ _)); exact BK1126.out) hb); have n2_ := Aside0.mk (blk_below (g := gb1127) (o := .cells #[.int .i64 a2_0, .int .i64 a2_1] 23 (0, 0)) (by (with_reducible repeat (first | refine blk_drewN ?_ _ | refine blk_drew ?_ | refine blk_alloc ?_ _)); refine blk_far ?_ NB1127_1131.out _; (with_reducible repeat (first | refine blk_drewN ?_ _ | refine blk_drew ?_ | refine blk_alloc ?_ _)); refine blk_far ?_ NB1127_1131.out _; (with_reducible repeat (first | refine blk_drewN ?_ _ | refine blk_drew ?_ | refine blk_alloc ?_ _)); exact BK1127.out) hb); have n3_ := Aside0.mk (blk_below (g := gb1131) (o := .cells #[.int .i64 t1128, .int .i64 t1129] 23 (0, 0)) (by (with_reducible repeat (first | refine blk_drewN ?_ _ | refine blk_drew ?_ | refine blk_alloc ?_ _)); refine blk_put (cs := #[.int .i64 t1128, .int .i64 0]) ?_ 1 _ rfl; (with_reducible repeat (first | refine blk_drewN ?_ _ | refine blk_drew ?_ | refine blk_alloc ?_ _)); refine blk_put (cs := #[.int .i64 0, .int .i64 0]) ?_ 0 _ rfl; (with_reducible repeat (first | refine blk_drewN ?_ _ | refine blk_drew ?_ | refine blk_alloc ?_ _)); exact BK1131.out) hb); have n4_ := Aside0.mk (below_step (q4_ HB.out GE1125.out GE1126.out GE1127.out GE1131.out) hb); clear BK1125; clear BK1126; clear BK1127; clear BK1131; clear HB; have BK1125 := n0_; have BK1126 := n1_; have BK1127 := n2_; have BK1131 := n3_; have HB := n4_; clear n0_ n1_ n2_ n3_ n4_; (try clear hb); (try clear hb2); (try clear hk); (try clear hi)) | ((with_reducible refine gate_dst (N := 9) rfl ?_); refine qx_ 9 #[.int .i64 0, .int .i64 0] 23 ?hr ?_; (case hr => first | (go_simp; done) | (go_simp; rfl)); intro gb1135 hg w24 hbox hb; have n0_ := Aside0.mk (qk_ BK1125.out hb); have n1_ := Aside0.mk (qk_ BK1126.out hb); have n2_ := Aside0.mk (qk_ BK1127.out hb); have n3_ := Aside0.mk (qk_ BK1131.out hb); have n4_ := Aside0.mk (below_step (q4_ HB.out GE1125.out GE1126.out GE1127.out GE1131.out) hb); have n5_ := Aside0.mk (hbox); have n6_ := Aside0.mk (qs_ hg (q4_ HB.out GE1125.out GE1126.out GE1127.out GE1131.out) : w.heap.size ≤ gb1135); have n7_ := n6_; have n8_ := Aside0.mk (qn_ hg BK1125.out); have n9_ := Aside0.mk (Ne.symm (qn_ hg BK1125.out)); have n10_ := Aside0.mk (qn_ hg BK1126.out); have n11_ := Aside0.mk (Ne.symm (qn_ hg BK1126.out)); have n12_ := Aside0.mk (qn_ hg BK1127.out); have n13_ := Aside0.mk (Ne.symm (qn_ hg BK1127.out)); have n14_ := Aside0.mk (qn_ hg BK1131.out); have n15_ := Aside0.mk (Ne.symm (qn_ hg BK1131.out)); clear BK1125; clear BK1126; clear BK1127; clear BK1131; clear HB; have BK1125 := n0_; have BK1126 := n1_; have BK1127 := n2_; have BK1131 := n3_; have HB := n4_; have BK1135 := n5_; have GW1135 := n6_; have GE1135 := n7_; have NB1125_1135 := n8_; have NB1135_1125 := n9_; have NB1126_1135 := n10_; have NB1135_1126 := n11_; have NB1127_1135 := n12_; have NB1135_1127 := n13_; have NB1131_1135 := n14_; have NB1135_1131 := n15_; clear n0_ n1_ n2_ n3_ n4_ n5_ n6_ n7_ n8_ n9_ n10_ n11_ n12_ n13_ n14_ n15_; clear hb hbox hg; have hnb25 := NB1135_1125.out; have hnc25 := NB1125_1135.out; have hnb26 := NB1135_1126.out; have hnc26 := NB1126_1135.out; have hnb27 := NB1135_1127.out; have hnc27 := NB1127_1135.out; have hnb28 := NB1135_1131.out; have hnc28 := NB1131_1135.out; have hcz29_0 : w24.cell? ⟨gb1135, 0, none⟩ = some (.int .i64 0) := (blk_cell BK1135.out 0).trans rfl; have hcz29_1 : w24.cell? ⟨gb1135, 1, none⟩ = some (.int .i64 0) := (blk_cell BK1135.out 1).trans rfl; have hfz29_0 := blk_frozen BK1135.out 0; have hfz29_1 := blk_frozen BK1135.out 1))
  (try simp only [Act.put, List.setIfInBounds_toArray, List.set_cons_zero, List.set_cons_succ])
  go_cut [43] (fun v43 wc => ∃ (kq : Nat) (x43_5 : Bool), v43 = .bool x43_5 ∧ Aside0 (merinolaw01_NumField.j0 kq t1134 x43_5 a0_0 a0_1 a1_0 a1_1 a2_0 a2_1 t1128 t1129 = some r) ∧ Aside0 (kq ≤ k) ∧ Aside0 (wc.heap[gb1125]? = some (.cells #[.int .i64 a0_0, .int .i64 a0_1] 23 (0, 0))) ∧ Aside0 (wc.heap[gb1126]? = some (.cells #[.int .i64 a1_0, .int .i64 a1_1] 23 (0, 0))) ∧ Aside0 (wc.heap[gb1127]? = some (.cells #[.int .i64 a2_0, .int .i64 a2_1] 23 (0, 0))) ∧ Aside0 (wc.heap[gb1131]? = some (.cells #[.int .i64 t1128, .int .i64 t1129] 23 (0, 0))) ∧ Aside0 (wc.heap[gb1135]? = some (.cells #[.int .i64 t1132, .int .i64 t1133] 23 (0, 0))) ∧ Aside0 (Below w.heap.size w wc))
  case first =>
    have H := HC6.out
    clear HC6
    by_cases c30 : (!(t1128 == t1132) || (!(t1129 == t1133))) = true
    · rw [if_pos c30] at H
      have c30b0 : (!(t1128 == t1132) || (!(t1129 == t1133))) = true := c30
      clear c30
      (first | rw [c30b0] | (simp only [i64_w, i32_w]; rw [c30b0]) | skip)
      have H' := Aside0.mk H
      clear H
      have hnb31 := NB1131_1125.out
      have hnc31 := NB1125_1131.out
      have hnb32 := NB1131_1126.out
      have hnc32 := NB1126_1131.out
      have hnb33 := NB1131_1127.out
      have hnc33 := NB1127_1131.out
      have hnb34 := NB1131_1135.out
      have hnc34 := NB1135_1131.out
      have hcz35_0 : w24.cell? ⟨gb1131, 0, none⟩ = some (.int .i64 t1128) := (blk_cell BK1131.out 0).trans rfl
      have hcz35_1 : w24.cell? ⟨gb1131, 1, none⟩ = some (.int .i64 t1129) := (blk_cell BK1131.out 1).trans rfl
      have hfz35_0 := blk_frozen BK1131.out 0
      have hfz35_1 := blk_frozen BK1131.out 1
      have hnb36 := NB1135_1125.out
      have hnc36 := NB1125_1135.out
      have hnb37 := NB1135_1126.out
      have hnc37 := NB1126_1135.out
      have hnb38 := NB1135_1127.out
      have hnc38 := NB1127_1135.out
      have hcz39_0 : w24.cell? ⟨gb1135, 0, none⟩ = some (.int .i64 0) := (blk_cell BK1135.out 0).trans rfl
      have hcz39_1 : w24.cell? ⟨gb1135, 1, none⟩ = some (.int .i64 0) := (blk_cell BK1135.out 1).trans rfl
      have hfz39_0 := blk_frozen BK1135.out 0
      have hfz39_1 := blk_frozen BK1135.out 1
      go_wp2
      go_meet
      case rel => exact ⟨_, (true), (by first | rfl | (simp; done) | (simp [*]; done)), H', ⟨by first | omega | exact Nat.le_refl _⟩, ⟨by (with_reducible repeat (first | refine blk_drewN ?_ _ | refine blk_drew ?_ | refine blk_alloc ?_ _)); refine blk_far ?_ NB1125_1135.out _; (with_reducible repeat (first | refine blk_drewN ?_ _ | refine blk_drew ?_ | refine blk_alloc ?_ _)); refine blk_far ?_ NB1125_1135.out _; (with_reducible repeat (first | refine blk_drewN ?_ _ | refine blk_drew ?_ | refine blk_alloc ?_ _)); exact BK1125.out⟩, ⟨by (with_reducible repeat (first | refine blk_drewN ?_ _ | refine blk_drew ?_ | refine blk_alloc ?_ _)); refine blk_far ?_ NB1126_1135.out _; (with_reducible repeat (first | refine blk_drewN ?_ _ | refine blk_drew ?_ | refine blk_alloc ?_ _)); refine blk_far ?_ NB1126_1135.out _; (with_reducible repeat (first | refine blk_drewN ?_ _ | refine blk_drew ?_ | refine blk_alloc ?_ _)); exact BK1126.out⟩, ⟨by (with_reducible repeat (first | refine blk_drewN ?_ _ | refine blk_drew ?_ | refine blk_alloc ?_ _)); refine blk_far ?_ NB1127_1135.out _; (with_reducible repeat (first | refine blk_drewN ?_ _ | refine blk_drew ?_ | refine blk_alloc ?_ _)); refine blk_far ?_ NB1127_1135.out _; (with_reducible repeat (first | refine blk_drewN ?_ _ | refine blk_drew ?_ | refine blk_alloc ?_ _)); exact BK1127.out⟩, ⟨by (with_reducible repeat (first | refine blk_drewN ?_ _ | refine blk_drew ?_ | refine blk_alloc ?_ _)); refine blk_far ?_ NB1131_1135.out _; (with_reducible repeat (first | refine blk_drewN ?_ _ | refine blk_drew ?_ | refine blk_alloc ?_ _)); refine blk_far ?_ NB1131_1135.out _; (with_reducible repeat (first | refine blk_drewN ?_ _ | refine blk_drew ?_ | refine blk_alloc ?_ _)); exact BK1131.out⟩, ⟨by (with_reducible repeat (first | refine blk_drewN ?_ _ | refine blk_drew ?_ | refine blk_alloc ?_ _)); refine blk_put (cs := #[.int .i64 t1132, .int .i64 0]) ?_ 1 _ rfl; (with_reducible repeat (first | refine blk_drewN ?_ _ | refine blk_drew ?_ | refine blk_alloc ?_ _)); refine blk_put (cs := #[.int .i64 0, .int .i64 0]) ?_ 0 _ rfl; (with_reducible repeat (first | refine blk_drewN ?_ _ | refine blk_drew ?_ | refine blk_alloc ?_ _)); exact BK1135.out⟩, ⟨(q5_ HB.out GE1125.out GE1126.out GE1127.out GE1131.out GE1135.out)⟩⟩
    · rw [if_neg c30] at H
      have c30b0 : (!(t1128 == t1132) || (!(t1129 == t1133))) = false := by simpa using c30
      clear c30
      (first | rw [c30b0] | (simp only [i64_w, i32_w]; rw [c30b0]) | skip)
      have H' := Aside0.mk H
      clear H
      have hnb40 := NB1131_1125.out
      have hnc40 := NB1125_1131.out
      have hnb41 := NB1131_1126.out
      have hnc41 := NB1126_1131.out
      have hnb42 := NB1131_1127.out
      have hnc42 := NB1127_1131.out
      have hnb43 := NB1131_1135.out
      have hnc43 := NB1135_1131.out
      have hcz44_0 : w24.cell? ⟨gb1131, 0, none⟩ = some (.int .i64 t1128) := (blk_cell BK1131.out 0).trans rfl
      have hcz44_1 : w24.cell? ⟨gb1131, 1, none⟩ = some (.int .i64 t1129) := (blk_cell BK1131.out 1).trans rfl
      have hfz44_0 := blk_frozen BK1131.out 0
      have hfz44_1 := blk_frozen BK1131.out 1
      have hnb45 := NB1135_1125.out
      have hnc45 := NB1125_1135.out
      have hnb46 := NB1135_1126.out
      have hnc46 := NB1126_1135.out
      have hnb47 := NB1135_1127.out
      have hnc47 := NB1127_1135.out
      have hcz48_0 : w24.cell? ⟨gb1135, 0, none⟩ = some (.int .i64 0) := (blk_cell BK1135.out 0).trans rfl
      have hcz48_1 : w24.cell? ⟨gb1135, 1, none⟩ = some (.int .i64 0) := (blk_cell BK1135.out 1).trans rfl
      have hfz48_0 := blk_frozen BK1135.out 0
      have hfz48_1 := blk_frozen BK1135.out 1
      go_wp2
      go_meet
      case rel => exact ⟨_, ((t1130 != t1134)), (by first | rfl | (simp; done) | (simp [*]; done)), H', ⟨by first | omega | exact Nat.le_refl _⟩, ⟨by (with_reducible repeat (first | refine blk_drewN ?_ _ | refine blk_drew ?_ | refine blk_alloc ?_ _)); refine blk_far ?_ NB1125_1135.out _; (with_reducible repeat (first | refine blk_drewN ?_ _ | refine blk_drew ?_ | refine blk_alloc ?_ _)); refine blk_far ?_ NB1125_1135.out _; (with_reducible repeat (first | refine blk_drewN ?_ _ | refine blk_drew ?_ | refine blk_alloc ?_ _)); exact BK1125.out⟩, ⟨by (with_reducible repeat (first | refine blk_drewN ?_ _ | refine blk_drew ?_ | refine blk_alloc ?_ _)); refine blk_far ?_ NB1126_1135.out _; (with_reducible repeat (first | refine blk_drewN ?_ _ | refine blk_drew ?_ | refine blk_alloc ?_ _)); refine blk_far ?_ NB1126_1135.out _; (with_reducible repeat (first | refine blk_drewN ?_ _ | refine blk_drew ?_ | refine blk_alloc ?_ _)); exact BK1126.out⟩, ⟨by (with_reducible repeat (first | refine blk_drewN ?_ _ | refine blk_drew ?_ | refine blk_alloc ?_ _)); refine blk_far ?_ NB1127_1135.out _; (with_reducible repeat (first | refine blk_drewN ?_ _ | refine blk_drew ?_ | refine blk_alloc ?_ _)); refine blk_far ?_ NB1127_1135.out _; (with_reducible repeat (first | refine blk_drewN ?_ _ | refine blk_drew ?_ | refine blk_alloc ?_ _)); exact BK1127.out⟩, ⟨by (with_reducible repeat (first | refine blk_drewN ?_ _ | refine blk_drew ?_ | refine blk_alloc ?_ _)); refine blk_far ?_ NB1131_1135.out _; (with_reducible repeat (first | refine blk_drewN ?_ _ | refine blk_drew ?_ | refine blk_alloc ?_ _)); refine blk_far ?_ NB1131_1135.out _; (with_reducible repeat (first | refine blk_drewN ?_ _ | refine blk_drew ?_ | refine blk_alloc ?_ _)); exact BK1131.out⟩, ⟨by (with_reducible repeat (first | refine blk_drewN ?_ _ | refine blk_drew ?_ | refine blk_alloc ?_ _)); refine blk_put (cs := #[.int .i64 t1132, .int .i64 0]) ?_ 1 _ rfl; (with_reducible repeat (first | refine blk_drewN ?_ _ | refine blk_drew ?_ | refine blk_alloc ?_ _)); refine blk_put (cs := #[.int .i64 0, .int .i64 0]) ?_ 0 _ rfl; (with_reducible repeat (first | refine blk_drewN ?_ _ | refine blk_drew ?_ | refine blk_alloc ?_ _)); exact BK1135.out⟩, ⟨(q5_ HB.out GE1125.out GE1126.out GE1127.out GE1131.out GE1135.out)⟩⟩
  case rest =>
    clear HC6
    try clear c1
    try clear c2
    try clear p2
    try clear c3
    try clear c4
    try clear c5
    try clear c10
    try clear c11
    try clear c13
    try clear c14
    try clear c17
    try clear c18
    try clear c19
    try clear c25
    try clear c26
    try clear c27
    try clear c28
    try clear c30
    try clear c30b0
    try clear c31
    try clear c32
    try clear c33
    try clear c34
    try clear c36
    try clear c37
    try clear c38
    try clear c40
    try clear c41
    try clear c42
    try clear c43
    try clear c45
    try clear c46
    try clear c47
    try clear hcz12_0
    try clear hcz12_1
    try clear hcz14_0
    try clear hcz14_1
    try clear hcz20_0
    try clear hcz20_1
    try clear hcz21_0
    try clear hcz21_1
    try clear hcz22_0
    try clear hcz22_1
    try clear hcz29_0
    try clear hcz29_1
    try clear hcz35_0
    try clear hcz35_1
    try clear hcz39_0
    try clear hcz39_1
    try clear hcz44_0
    try clear hcz44_1
    try clear hcz48_0
    try clear hcz48_1
    try clear hfz12_0
    try clear hfz12_1
    try clear hfz14_0
    try clear hfz14_1
    try clear hfz20_0
    try clear hfz20_1
    try clear hfz21_0
    try clear hfz21_1
    try clear hfz22_0
    try clear hfz22_1
    try clear hfz29_0
    try clear hfz29_1
    try clear hfz35_0
    try clear hfz35_1
    try clear hfz39_0
    try clear hfz39_1
    try clear hfz44_0
    try clear hfz44_1
    try clear hfz48_0
    try clear hfz48_1
    obtain ⟨kq, x43_5, rfl, HA, HJ5, BK1125, BK1126, BK1127, BK1131, BK1135, HB⟩ := hcut
    cases kq with
    | zero => exact absurd HA.out (by simp [merinolaw01_NumField.j0])
    | succ kj5 =>
      have H := HA.out
      clear HA
      simp only [merinolaw01_NumField.j0] at H
      by_cases c49 : x43_5 = true
      · subst c49
        have H1 : (none) = some r := by rw [if_pos rfl] at H; exact H
        clear H
        have H := H1
        clear H1
        exact absurd H (by simp)
      · replace c49 := Bool.eq_false_iff.mpr c49
        subst c49
        have H1 : ((num_Sub.f kj5 t1128 t1129 a1_0 a1_1).bind fun bt1136 => (if t1134 = 0 then (if bt1136.2.2 = 0 then (merinolaw01_NumField.j1 kj5 (!(bt1136.1 == a0_0) || (!(bt1136.2.1 == a0_1))) a0_0 a0_1 a1_0 a1_1 a2_0 a2_1 t1128 t1129) else (merinolaw01_NumField.j1 kj5 true a0_0 a0_1 a1_0 a1_1 a2_0 a2_1 t1128 t1129)) else (merinolaw01_NumField.j1 kj5 false a0_0 a0_1 a1_0 a1_1 a2_0 a2_1 t1128 t1129))) = some r := by rw [if_neg (show ¬ (false = true) by decide)] at H; exact H
        clear H
        have H := H1
        clear H1
        replace H := Option.bind_eq_some_iff.mp H
        obtain ⟨⟨t1136, t1137, t1138⟩, A500, H⟩ := H
        replace H : (if t1134 = 0 then (if t1138 = 0 then (merinolaw01_NumField.j1 kj5 (!(t1136 == a0_0) || (!(t1137 == a0_1))) a0_0 a0_1 a1_0 a1_1 a2_0 a2_1 t1128 t1129) else (merinolaw01_NumField.j1 kj5 true a0_0 a0_1 a1_0 a1_1 a2_0 a2_1 t1128 t1129)) else (merinolaw01_NumField.j1 kj5 false a0_0 a0_1 a1_0 a1_1 a2_0 a2_1 t1128 t1129)) = some r := H
        have A50 := Aside0.mk A500
        clear A500
        have HC51 := Aside0.mk H
        clear H
        have hnb52 := NB1131_1125.out
        have hnc52 := NB1125_1131.out
        have hnb53 := NB1131_1126.out
        have hnc53 := NB1126_1131.out
        have hnb54 := NB1131_1127.out
        have hnc54 := NB1127_1131.out
        have hnb55 := NB1131_1135.out
        have hnc55 := NB1135_1131.out
        have hcz56_0 : wc.cell? ⟨gb1131, 0, none⟩ = some (.int .i64 t1128) := (blk_cell BK1131.out 0).trans rfl
        have hcz56_1 : wc.cell? ⟨gb1131, 1, none⟩ = some (.int .i64 t1129) := (blk_cell BK1131.out 1).trans rfl
        have hfz56_0 := blk_frozen BK1131.out 0
        have hfz56_1 := blk_frozen BK1131.out 1
        have hnb57 := NB1126_1125.out
        have hnc57 := NB1125_1126.out
        have hnb58 := NB1126_1127.out
        have hnc58 := NB1127_1126.out
        have hnb59 := NB1126_1135.out
        have hnc59 := NB1135_1126.out
        have hcz60_0 : wc.cell? ⟨gb1126, 0, none⟩ = some (.int .i64 a1_0) := (blk_cell BK1126.out 0).trans rfl
        have hcz60_1 : wc.cell? ⟨gb1126, 1, none⟩ = some (.int .i64 a1_1) := (blk_cell BK1126.out 1).trans rfl
        have hfz60_0 := blk_frozen BK1126.out 0
        have hfz60_1 := blk_frozen BK1126.out 1
        go_upto_region 6 with (first | ((with_reducible refine gate_callee (f := 53) rfl ?_); refine goesL_ (some 47) rfl rfl Tryd.func53 (by kernel_rfl) rfl #[.agg #[.int .i64 t1128, .int .i64 t1129], .agg #[.int .i64 a1_0, .int .i64 a1_1]] rfl qe_ ?_; (with_reducible refine (num_Sub.calls kj5 t1128 t1129 a1_0 a1_1 t1136 t1137 t1138 _ A50.out).mono ?_); rintro e w61 ⟨rfl, hb⟩; refine ⟨_, rfl, ?_⟩; have n0_ := Aside0.mk (qk_ BK1125.out hb); have n1_ := Aside0.mk (qk_ BK1126.out hb); have n2_ := Aside0.mk (qk_ BK1127.out hb); have n3_ := Aside0.mk (qk_ BK1131.out hb); have n4_ := Aside0.mk (qk_ BK1135.out hb); have n5_ := Aside0.mk (below_step (q5_ HB.out GE1125.out GE1126.out GE1127.out GE1131.out GE1135.out) hb); clear BK1125; clear BK1126; clear BK1127; clear BK1131; clear BK1135; clear HB; have BK1125 := n0_; have BK1126 := n1_; have BK1127 := n2_; have BK1131 := n3_; have BK1135 := n4_; have HB := n5_; clear n0_ n1_ n2_ n3_ n4_ n5_; (try clear hb); (try clear hb2); (try clear hk); (try clear hi)) | ((with_reducible refine gate_dst (N := 11) rfl ?_); refine qx_ 11 #[.int .i64 0, .int .i64 0] 23 ?hr ?_; (case hr => first | (go_simp; done) | (go_simp; rfl)); intro gb1139 hg w62 hbox hb; have n0_ := Aside0.mk (qk_ BK1125.out hb); have n1_ := Aside0.mk (qk_ BK1126.out hb); have n2_ := Aside0.mk (qk_ BK1127.out hb); have n3_ := Aside0.mk (qk_ BK1131.out hb); have n4_ := Aside0.mk (qk_ BK1135.out hb); have n5_ := Aside0.mk (below_step (q5_ HB.out GE1125.out GE1126.out GE1127.out GE1131.out GE1135.out) hb); have n6_ := Aside0.mk (hbox); have n7_ := Aside0.mk (qs_ hg (q5_ HB.out GE1125.out GE1126.out GE1127.out GE1131.out GE1135.out) : w.heap.size ≤ gb1139); have n8_ := n7_; have n9_ := Aside0.mk (qn_ hg BK1125.out); have n10_ := Aside0.mk (Ne.symm (qn_ hg BK1125.out)); have n11_ := Aside0.mk (qn_ hg BK1126.out); have n12_ := Aside0.mk (Ne.symm (qn_ hg BK1126.out)); have n13_ := Aside0.mk (qn_ hg BK1127.out); have n14_ := Aside0.mk (Ne.symm (qn_ hg BK1127.out)); have n15_ := Aside0.mk (qn_ hg BK1131.out); have n16_ := Aside0.mk (Ne.symm (qn_ hg BK1131.out)); have n17_ := Aside0.mk (qn_ hg BK1135.out); have n18_ := Aside0.mk (Ne.symm (qn_ hg BK1135.out)); clear BK1125; clear BK1126; clear BK1127; clear BK1131; clear BK1135; clear HB; have BK1125 := n0_; have BK1126 := n1_; have BK1127 := n2_; have BK1131 := n3_; have BK1135 := n4_; have HB := n5_; have BK1139 := n6_; have GW1139 := n7_; have GE1139 := n8_; have NB1125_1139 := n9_; have NB1139_1125 := n10_; have NB1126_1139 := n11_; have NB1139_1126 := n12_; have NB1127_1139 := n13_; have NB1139_1127 := n14_; have NB1131_1139 := n15_; have NB1139_1131 := n16_; have NB1135_1139 := n17_; have NB1139_1135 := n18_; clear n0_ n1_ n2_ n3_ n4_ n5_ n6_ n7_ n8_ n9_ n10_ n11_ n12_ n13_ n14_ n15_ n16_ n17_ n18_; clear hb hbox hg; have hnb63 := NB1139_1125.out; have hnc63 := NB1125_1139.out; have hnb64 := NB1139_1126.out; have hnc64 := NB1126_1139.out; have hnb65 := NB1139_1127.out; have hnc65 := NB1127_1139.out; have hnb66 := NB1139_1131.out; have hnc66 := NB1131_1139.out; have hnb67 := NB1139_1135.out; have hnc67 := NB1135_1139.out; have hcz68_0 : w62.cell? ⟨gb1139, 0, none⟩ = some (.int .i64 0) := (blk_cell BK1139.out 0).trans rfl; have hcz68_1 : w62.cell? ⟨gb1139, 1, none⟩ = some (.int .i64 0) := (blk_cell BK1139.out 1).trans rfl; have hfz68_0 := blk_frozen BK1139.out 0; have hfz68_1 := blk_frozen BK1139.out 1))
        (try simp only [Act.put, List.setIfInBounds_toArray, List.set_cons_zero, List.set_cons_succ])
        go_cut [60] (fun v60 wc => ∃ (kq : Nat) (x60_50 : Bool), v60 = .bool x60_50 ∧ Aside0 (merinolaw01_NumField.j1 kq x60_50 a0_0 a0_1 a1_0 a1_1 a2_0 a2_1 t1128 t1129 = some r) ∧ Aside0 (kq ≤ kj5) ∧ Aside0 (wc.heap[gb1125]? = some (.cells #[.int .i64 a0_0, .int .i64 a0_1] 23 (0, 0))) ∧ Aside0 (wc.heap[gb1126]? = some (.cells #[.int .i64 a1_0, .int .i64 a1_1] 23 (0, 0))) ∧ Aside0 (wc.heap[gb1127]? = some (.cells #[.int .i64 a2_0, .int .i64 a2_1] 23 (0, 0))) ∧ Aside0 (wc.heap[gb1131]? = some (.cells #[.int .i64 t1128, .int .i64 t1129] 23 (0, 0))) ∧ Aside0 (wc.heap[gb1135]? = some (.cells #[.int .i64 t1132, .int .i64 t1133] 23 (0, 0))) ∧ Aside0 (wc.heap[gb1139]? = some (.cells #[.int .i64 t1136, .int .i64 t1137] 23 (0, 0))) ∧ Aside0 (Below w.heap.size w wc))
        case first =>
          have H := HC51.out
          clear HC51
          by_cases c69 : t1134 = 0
          · rw [if_pos c69] at H
            have c69b0 : (t1134 == 0) = true := beq_iff_eq.mpr c69
            have c69b1 : (t1134 != 0) = false := bne_eq_false_iff_eq.mpr c69
            clear c69
            (first | rw [c69b0] | (simp only [i64_w, i32_w]; rw [c69b0]) | skip)
            by_cases c70 : t1138 = 0
            · rw [if_pos c70] at H
              have c70b0 : (t1138 == 0) = true := beq_iff_eq.mpr c70
              have c70b1 : (t1138 != 0) = false := bne_eq_false_iff_eq.mpr c70
              clear c70
              have H' := Aside0.mk H
              clear H
              have hnb71 := NB1139_1125.out
              have hnc71 := NB1125_1139.out
              have hnb72 := NB1139_1126.out
              have hnc72 := NB1126_1139.out
              have hnb73 := NB1139_1127.out
              have hnc73 := NB1127_1139.out
              have hnb74 := NB1139_1131.out
              have hnc74 := NB1131_1139.out
              have hnb75 := NB1139_1135.out
              have hnc75 := NB1135_1139.out
              have hcz76_0 : w62.cell? ⟨gb1139, 0, none⟩ = some (.int .i64 0) := (blk_cell BK1139.out 0).trans rfl
              have hcz76_1 : w62.cell? ⟨gb1139, 1, none⟩ = some (.int .i64 0) := (blk_cell BK1139.out 1).trans rfl
              have hfz76_0 := blk_frozen BK1139.out 0
              have hfz76_1 := blk_frozen BK1139.out 1
              have hnb77 := NB1125_1126.out
              have hnc77 := NB1126_1125.out
              have hnb78 := NB1125_1127.out
              have hnc78 := NB1127_1125.out
              have hnb79 := NB1125_1131.out
              have hnc79 := NB1131_1125.out
              have hnb80 := NB1125_1135.out
              have hnc80 := NB1135_1125.out
              have hcz81_0 : w62.cell? ⟨gb1125, 0, none⟩ = some (.int .i64 a0_0) := (blk_cell BK1125.out 0).trans rfl
              have hcz81_1 : w62.cell? ⟨gb1125, 1, none⟩ = some (.int .i64 a0_1) := (blk_cell BK1125.out 1).trans rfl
              have hfz81_0 := blk_frozen BK1125.out 0
              have hfz81_1 := blk_frozen BK1125.out 1
              go_wp2
              go_meet
              case rel => exact ⟨_, ((!(t1136 == a0_0) || (!(t1137 == a0_1)))), (by first | rfl | (simp; done) | (simp [*]; done)), H', ⟨by have := HJ5.out; first | omega | exact Nat.le_refl _⟩, ⟨by (with_reducible repeat (first | refine blk_drewN ?_ _ | refine blk_drew ?_ | refine blk_alloc ?_ _)); refine blk_far ?_ NB1125_1139.out _; (with_reducible repeat (first | refine blk_drewN ?_ _ | refine blk_drew ?_ | refine blk_alloc ?_ _)); refine blk_far ?_ NB1125_1139.out _; (with_reducible repeat (first | refine blk_drewN ?_ _ | refine blk_drew ?_ | refine blk_alloc ?_ _)); exact BK1125.out⟩, ⟨by (with_reducible repeat (first | refine blk_drewN ?_ _ | refine blk_drew ?_ | refine blk_alloc ?_ _)); refine blk_far ?_ NB1126_1139.out _; (with_reducible repeat (first | refine blk_drewN ?_ _ | refine blk_drew ?_ | refine blk_alloc ?_ _)); refine blk_far ?_ NB1126_1139.out _; (with_reducible repeat (first | refine blk_drewN ?_ _ | refine blk_drew ?_ | refine blk_alloc ?_ _)); exact BK1126.out⟩, ⟨by (with_reducible repeat (first | refine blk_drewN ?_ _ | refine blk_drew ?_ | refine blk_alloc ?_ _)); refine blk_far ?_ NB1127_1139.out _; (with_reducible repeat (first | refine blk_drewN ?_ _ | refine blk_drew ?_ | refine blk_alloc ?_ _)); refine blk_far ?_ NB1127_1139.out _; (with_reducible repeat (first | refine blk_drewN ?_ _ | refine blk_drew ?_ | refine blk_alloc ?_ _)); exact BK1127.out⟩, ⟨by (with_reducible repeat (first | refine blk_drewN ?_ _ | refine blk_drew ?_ | refine blk_alloc ?_ _)); refine blk_far ?_ NB1131_1139.out _; (with_reducible repeat (first | refine blk_drewN ?_ _ | refine blk_drew ?_ | refine blk_alloc ?_ _)); refine blk_far ?_ NB1131_1139.out _; (with_reducible repeat (first | refine blk_drewN ?_ _ | refine blk_drew ?_ | refine blk_alloc ?_ _)); exact BK1131.out⟩, ⟨by (with_reducible repeat (first | refine blk_drewN ?_ _ | refine blk_drew ?_ | refine blk_alloc ?_ _)); refine blk_far ?_ NB1135_1139.out _; (with_reducible repeat (first | refine blk_drewN ?_ _ | refine blk_drew ?_ | refine blk_alloc ?_ _)); refine blk_far ?_ NB1135_1139.out _; (with_reducible repeat (first | refine blk_drewN ?_ _ | refine blk_drew ?_ | refine blk_alloc ?_ _)); exact BK1135.out⟩, ⟨by (with_reducible repeat (first | refine blk_drewN ?_ _ | refine blk_drew ?_ | refine blk_alloc ?_ _)); refine blk_put (cs := #[.int .i64 t1136, .int .i64 0]) ?_ 1 _ rfl; (with_reducible repeat (first | refine blk_drewN ?_ _ | refine blk_drew ?_ | refine blk_alloc ?_ _)); refine blk_put (cs := #[.int .i64 0, .int .i64 0]) ?_ 0 _ rfl; (with_reducible repeat (first | refine blk_drewN ?_ _ | refine blk_drew ?_ | refine blk_alloc ?_ _)); exact BK1139.out⟩, ⟨(q6_ HB.out GE1125.out GE1126.out GE1127.out GE1131.out GE1135.out GE1139.out)⟩⟩
            · rw [if_neg c70] at H
              have c70b0 : (t1138 == 0) = false := beq_eq_false_iff_ne.mpr c70
              have c70b1 : (t1138 != 0) = true := bne_iff_ne.mpr c70
              have H' := Aside0.mk H
              clear H
              go_wp2
              go_meet
              case rel => exact ⟨_, (true), (by first | rfl | (simp; done) | (simp [*]; done)), H', ⟨by have := HJ5.out; first | omega | exact Nat.le_refl _⟩, ⟨by (with_reducible repeat (first | refine blk_drewN ?_ _ | refine blk_drew ?_ | refine blk_alloc ?_ _)); refine blk_far ?_ NB1125_1139.out _; (with_reducible repeat (first | refine blk_drewN ?_ _ | refine blk_drew ?_ | refine blk_alloc ?_ _)); refine blk_far ?_ NB1125_1139.out _; (with_reducible repeat (first | refine blk_drewN ?_ _ | refine blk_drew ?_ | refine blk_alloc ?_ _)); exact BK1125.out⟩, ⟨by (with_reducible repeat (first | refine blk_drewN ?_ _ | refine blk_drew ?_ | refine blk_alloc ?_ _)); refine blk_far ?_ NB1126_1139.out _; (with_reducible repeat (first | refine blk_drewN ?_ _ | refine blk_drew ?_ | refine blk_alloc ?_ _)); refine blk_far ?_ NB1126_1139.out _; (with_reducible repeat (first | refine blk_drewN ?_ _ | refine blk_drew ?_ | refine blk_alloc ?_ _)); exact BK1126.out⟩, ⟨by (with_reducible repeat (first | refine blk_drewN ?_ _ | refine blk_drew ?_ | refine blk_alloc ?_ _)); refine blk_far ?_ NB1127_1139.out _; (with_reducible repeat (first | refine blk_drewN ?_ _ | refine blk_drew ?_ | refine blk_alloc ?_ _)); refine blk_far ?_ NB1127_1139.out _; (with_reducible repeat (first | refine blk_drewN ?_ _ | refine blk_drew ?_ | refine blk_alloc ?_ _)); exact BK1127.out⟩, ⟨by (with_reducible repeat (first | refine blk_drewN ?_ _ | refine blk_drew ?_ | refine blk_alloc ?_ _)); refine blk_far ?_ NB1131_1139.out _; (with_reducible repeat (first | refine blk_drewN ?_ _ | refine blk_drew ?_ | refine blk_alloc ?_ _)); refine blk_far ?_ NB1131_1139.out _; (with_reducible repeat (first | refine blk_drewN ?_ _ | refine blk_drew ?_ | refine blk_alloc ?_ _)); exact BK1131.out⟩, ⟨by (with_reducible repeat (first | refine blk_drewN ?_ _ | refine blk_drew ?_ | refine blk_alloc ?_ _)); refine blk_far ?_ NB1135_1139.out _; (with_reducible repeat (first | refine blk_drewN ?_ _ | refine blk_drew ?_ | refine blk_alloc ?_ _)); refine blk_far ?_ NB1135_1139.out _; (with_reducible repeat (first | refine blk_drewN ?_ _ | refine blk_drew ?_ | refine blk_alloc ?_ _)); exact BK1135.out⟩, ⟨by (with_reducible repeat (first | refine blk_drewN ?_ _ | refine blk_drew ?_ | refine blk_alloc ?_ _)); refine blk_put (cs := #[.int .i64 t1136, .int .i64 0]) ?_ 1 _ rfl; (with_reducible repeat (first | refine blk_drewN ?_ _ | refine blk_drew ?_ | refine blk_alloc ?_ _)); refine blk_put (cs := #[.int .i64 0, .int .i64 0]) ?_ 0 _ rfl; (with_reducible repeat (first | refine blk_drewN ?_ _ | refine blk_drew ?_ | refine blk_alloc ?_ _)); exact BK1139.out⟩, ⟨(q6_ HB.out GE1125.out GE1126.out GE1127.out GE1131.out GE1135.out GE1139.out)⟩⟩
          · rw [if_neg c69] at H
            have c69b0 : (t1134 == 0) = false := beq_eq_false_iff_ne.mpr c69
            have c69b1 : (t1134 != 0) = true := bne_iff_ne.mpr c69
            (first | rw [c69b0] | (simp only [i64_w, i32_w]; rw [c69b0]) | skip)
            have H' := Aside0.mk H
            clear H
            go_wp2
            go_meet
            case rel => exact ⟨_, (false), (by first | rfl | (simp; done) | (simp [*]; done)), H', ⟨by have := HJ5.out; first | omega | exact Nat.le_refl _⟩, ⟨by (with_reducible repeat (first | refine blk_drewN ?_ _ | refine blk_drew ?_ | refine blk_alloc ?_ _)); refine blk_far ?_ NB1125_1139.out _; (with_reducible repeat (first | refine blk_drewN ?_ _ | refine blk_drew ?_ | refine blk_alloc ?_ _)); refine blk_far ?_ NB1125_1139.out _; (with_reducible repeat (first | refine blk_drewN ?_ _ | refine blk_drew ?_ | refine blk_alloc ?_ _)); exact BK1125.out⟩, ⟨by (with_reducible repeat (first | refine blk_drewN ?_ _ | refine blk_drew ?_ | refine blk_alloc ?_ _)); refine blk_far ?_ NB1126_1139.out _; (with_reducible repeat (first | refine blk_drewN ?_ _ | refine blk_drew ?_ | refine blk_alloc ?_ _)); refine blk_far ?_ NB1126_1139.out _; (with_reducible repeat (first | refine blk_drewN ?_ _ | refine blk_drew ?_ | refine blk_alloc ?_ _)); exact BK1126.out⟩, ⟨by (with_reducible repeat (first | refine blk_drewN ?_ _ | refine blk_drew ?_ | refine blk_alloc ?_ _)); refine blk_far ?_ NB1127_1139.out _; (with_reducible repeat (first | refine blk_drewN ?_ _ | refine blk_drew ?_ | refine blk_alloc ?_ _)); refine blk_far ?_ NB1127_1139.out _; (with_reducible repeat (first | refine blk_drewN ?_ _ | refine blk_drew ?_ | refine blk_alloc ?_ _)); exact BK1127.out⟩, ⟨by (with_reducible repeat (first | refine blk_drewN ?_ _ | refine blk_drew ?_ | refine blk_alloc ?_ _)); refine blk_far ?_ NB1131_1139.out _; (with_reducible repeat (first | refine blk_drewN ?_ _ | refine blk_drew ?_ | refine blk_alloc ?_ _)); refine blk_far ?_ NB1131_1139.out _; (with_reducible repeat (first | refine blk_drewN ?_ _ | refine blk_drew ?_ | refine blk_alloc ?_ _)); exact BK1131.out⟩, ⟨by (with_reducible repeat (first | refine blk_drewN ?_ _ | refine blk_drew ?_ | refine blk_alloc ?_ _)); refine blk_far ?_ NB1135_1139.out _; (with_reducible repeat (first | refine blk_drewN ?_ _ | refine blk_drew ?_ | refine blk_alloc ?_ _)); refine blk_far ?_ NB1135_1139.out _; (with_reducible repeat (first | refine blk_drewN ?_ _ | refine blk_drew ?_ | refine blk_alloc ?_ _)); exact BK1135.out⟩, ⟨by (with_reducible repeat (first | refine blk_drewN ?_ _ | refine blk_drew ?_ | refine blk_alloc ?_ _)); refine blk_put (cs := #[.int .i64 t1136, .int .i64 0]) ?_ 1 _ rfl; (with_reducible repeat (first | refine blk_drewN ?_ _ | refine blk_drew ?_ | refine blk_alloc ?_ _)); refine blk_put (cs := #[.int .i64 0, .int .i64 0]) ?_ 0 _ rfl; (with_reducible repeat (first | refine blk_drewN ?_ _ | refine blk_drew ?_ | refine blk_alloc ?_ _)); exact BK1139.out⟩, ⟨(q6_ HB.out GE1125.out GE1126.out GE1127.out GE1131.out GE1135.out GE1139.out)⟩⟩
        case rest =>
          clear HC51
          try clear c1
          try clear c2
          try clear p2
          try clear c3
          try clear c4
          try clear c5
          try clear c6
          try clear c7
          try clear c8
          try clear c10
          try clear c11
          try clear c13
          try clear c14
          try clear c17
          try clear c18
          try clear c19
          try clear c25
          try clear c26
          try clear c27
          try clear c28
          try clear c30
          try clear c30b0
          try clear c31
          try clear c32
          try clear c33
          try clear c34
          try clear c36
          try clear c37
          try clear c38
          try clear c40
          try clear c41
          try clear c42
          try clear c43
          try clear c45
          try clear c46
          try clear c47
          try clear c49
          try clear c52
          try clear c53
          try clear c54
          try clear c55
          try clear c57
          try clear c58
          try clear c59
          try clear c63
          try clear c64
          try clear c65
          try clear c66
          try clear c67
          try clear c69
          try clear c69b0
          try clear c69b1
          try clear c70
          try clear c70b0
          try clear c70b1
          try clear c71
          try clear c72
          try clear c73
          try clear c74
          try clear c75
          try clear c77
          try clear c78
          try clear c79
          try clear c80
          try clear hcz12_0
          try clear hcz12_1
          try clear hcz14_0
          try clear hcz14_1
          try clear hcz20_0
          try clear hcz20_1
          try clear hcz21_0
          try clear hcz21_1
          try clear hcz22_0
          try clear hcz22_1
          try clear hcz29_0
          try clear hcz29_1
          try clear hcz35_0
          try clear hcz35_1
          try clear hcz39_0
          try clear hcz39_1
          try clear hcz44_0
          try clear hcz44_1
          try clear hcz48_0
          try clear hcz48_1
          try clear hcz56_0
          try clear hcz56_1
          try clear hcz60_0
          try clear hcz60_1
          try clear hcz68_0
          try clear hcz68_1
          try clear hcz76_0
          try clear hcz76_1
          try clear hcz81_0
          try clear hcz81_1
          try clear hfz12_0
          try clear hfz12_1
          try clear hfz14_0
          try clear hfz14_1
          try clear hfz20_0
          try clear hfz20_1
          try clear hfz21_0
          try clear hfz21_1
          try clear hfz22_0
          try clear hfz22_1
          try clear hfz29_0
          try clear hfz29_1
          try clear hfz35_0
          try clear hfz35_1
          try clear hfz39_0
          try clear hfz39_1
          try clear hfz44_0
          try clear hfz44_1
          try clear hfz48_0
          try clear hfz48_1
          try clear hfz56_0
          try clear hfz56_1
          try clear hfz60_0
          try clear hfz60_1
          try clear hfz68_0
          try clear hfz68_1
          try clear hfz76_0
          try clear hfz76_1
          try clear hfz81_0
          try clear hfz81_1
          try clear p2
          obtain ⟨kq, x60_50, rfl, HA, HJ50, BK1125, BK1126, BK1127, BK1131, BK1135, BK1139, HB⟩ := hcut
          cases kq with
          | zero => exact absurd HA.out (by simp [merinolaw01_NumField.j1])
          | succ kj50 =>
            have H := HA.out
            clear HA
            simp only [merinolaw01_NumField.j1] at H
            by_cases c82 : x60_50 = true
            · subst c82
              have H1 : (none) = some r := by rw [if_pos rfl] at H; exact H
              clear H
              have H := H1
              clear H1
              exact absurd H (by simp)
            · replace c82 := Bool.eq_false_iff.mpr c82
              subst c82
              have H1 : ((num_Mul.f kj50 a0_0 a0_1 a1_0 a1_1).bind fun bt1140 => ((num_Mul.f kj50 a1_0 a1_1 a0_0 a0_1).bind fun bt1144 => (if (!(bt1140.1 == bt1144.1) || (!(bt1140.2.1 == bt1144.2.1))) = true then (merinolaw01_NumField.j2 kj50 bt1140.2.2 true a0_0 a0_1 a1_0 a1_1 a2_0 a2_1 t1128 t1129 bt1140.1 bt1140.2.1) else (merinolaw01_NumField.j2 kj50 bt1140.2.2 (bt1140.2.2 != bt1144.2.2) a0_0 a0_1 a1_0 a1_1 a2_0 a2_1 t1128 t1129 bt1140.1 bt1140.2.1)))) = some r := by rw [if_neg (show ¬ (false = true) by decide)] at H; exact H
              clear H
              have H := H1
              clear H1
              replace H := Option.bind_eq_some_iff.mp H
              obtain ⟨⟨t1140, t1141, t1142⟩, A830, H⟩ := H
              replace H : ((num_Mul.f kj50 a1_0 a1_1 a0_0 a0_1).bind fun bt1144 => (if (!(t1140 == bt1144.1) || (!(t1141 == bt1144.2.1))) = true then (merinolaw01_NumField.j2 kj50 t1142 true a0_0 a0_1 a1_0 a1_1 a2_0 a2_1 t1128 t1129 t1140 t1141) else (merinolaw01_NumField.j2 kj50 t1142 (t1142 != bt1144.2.2) a0_0 a0_1 a1_0 a1_1 a2_0 a2_1 t1128 t1129 t1140 t1141))) = some r := H
              have A83 := Aside0.mk A830
              clear A830
              replace H := Option.bind_eq_some_iff.mp H
              obtain ⟨⟨t1144, t1145, t1146⟩, A840, H⟩ := H
              replace H : (if (!(t1140 == t1144) || (!(t1141 == t1145))) = true then (merinolaw01_NumField.j2 kj50 t1142 true a0_0 a0_1 a1_0 a1_1 a2_0 a2_1 t1128 t1129 t1140 t1141) else (merinolaw01_NumField.j2 kj50 t1142 (t1142 != t1146) a0_0 a0_1 a1_0 a1_1 a2_0 a2_1 t1128 t1129 t1140 t1141)) = some r := H
              have A84 := Aside0.mk A840
              clear A840
              have HC85 := Aside0.mk H
              clear H
              have hnb86 := NB1125_1126.out
              have hnc86 := NB1126_1125.out
              have hnb87 := NB1125_1127.out
              have hnc87 := NB1127_1125.out
              have hnb88 := NB1125_1131.out
              have hnc88 := NB1131_1125.out
              have hnb89 := NB1125_1135.out
              have hnc89 := NB1135_1125.out
              have hnb90 := NB1125_1139.out
              have hnc90 := NB1139_1125.out
              have hcz91_0 : wc.cell? ⟨gb1125, 0, none⟩ = some (.int .i64 a0_0) := (blk_cell BK1125.out 0).trans rfl
              have hcz91_1 : wc.cell? ⟨gb1125, 1, none⟩ = some (.int .i64 a0_1) := (blk_cell BK1125.out 1).trans rfl
              have hfz91_0 := blk_frozen BK1125.out 0
              have hfz91_1 := blk_frozen BK1125.out 1
              have hnb92 := NB1126_1127.out
              have hnc92 := NB1127_1126.out
              have hnb93 := NB1126_1131.out
              have hnc93 := NB1131_1126.out
              have hnb94 := NB1126_1135.out
              have hnc94 := NB1135_1126.out
              have hnb95 := NB1126_1139.out
              have hnc95 := NB1139_1126.out
              have hcz96_0 : wc.cell? ⟨gb1126, 0, none⟩ = some (.int .i64 a1_0) := (blk_cell BK1126.out 0).trans rfl
              have hcz96_1 : wc.cell? ⟨gb1126, 1, none⟩ = some (.int .i64 a1_1) := (blk_cell BK1126.out 1).trans rfl
              have hfz96_0 := blk_frozen BK1126.out 0
              have hfz96_1 := blk_frozen BK1126.out 1
              go_upto_region 10 with (first | ((with_reducible refine gate_callee (f := 54) rfl ?_); refine goesL_ (some 64) rfl rfl Tryd.func54 (by kernel_rfl) rfl #[.agg #[.int .i64 a0_0, .int .i64 a0_1], .agg #[.int .i64 a1_0, .int .i64 a1_1]] rfl qe_ ?_; (with_reducible refine (num_Mul.calls kj50 a0_0 a0_1 a1_0 a1_1 t1140 t1141 t1142 _ A83.out).mono ?_); rintro e w97 ⟨rfl, hb⟩; refine ⟨_, rfl, ?_⟩; have n0_ := Aside0.mk (qk_ BK1125.out hb); have n1_ := Aside0.mk (qk_ BK1126.out hb); have n2_ := Aside0.mk (qk_ BK1127.out hb); have n3_ := Aside0.mk (qk_ BK1131.out hb); have n4_ := Aside0.mk (qk_ BK1135.out hb); have n5_ := Aside0.mk (qk_ BK1139.out hb); have n6_ := Aside0.mk (below_step (q6_ HB.out GE1125.out GE1126.out GE1127.out GE1131.out GE1135.out GE1139.out) hb); clear BK1125; clear BK1126; clear BK1127; clear BK1131; clear BK1135; clear BK1139; clear HB; have BK1125 := n0_; have BK1126 := n1_; have BK1127 := n2_; have BK1131 := n3_; have BK1135 := n4_; have BK1139 := n5_; have HB := n6_; clear n0_ n1_ n2_ n3_ n4_ n5_ n6_; (try clear hb); (try clear hb2); (try clear hk); (try clear hi)) | ((with_reducible refine gate_dst (N := 12) rfl ?_); refine qx_ 12 #[.int .i64 0, .int .i64 0] 23 ?hr ?_; (case hr => first | (go_simp; done) | (go_simp; rfl)); intro gb1143 hg w98 hbox hb; have n0_ := Aside0.mk (qk_ BK1125.out hb); have n1_ := Aside0.mk (qk_ BK1126.out hb); have n2_ := Aside0.mk (qk_ BK1127.out hb); have n3_ := Aside0.mk (qk_ BK1131.out hb); have n4_ := Aside0.mk (qk_ BK1135.out hb); have n5_ := Aside0.mk (qk_ BK1139.out hb); have n6_ := Aside0.mk (below_step (q6_ HB.out GE1125.out GE1126.out GE1127.out GE1131.out GE1135.out GE1139.out) hb); have n7_ := Aside0.mk (hbox); have n8_ := Aside0.mk (qs_ hg (q6_ HB.out GE1125.out GE1126.out GE1127.out GE1131.out GE1135.out GE1139.out) : w.heap.size ≤ gb1143); have n9_ := n8_; have n10_ := Aside0.mk (qn_ hg BK1125.out); have n11_ := Aside0.mk (Ne.symm (qn_ hg BK1125.out)); have n12_ := Aside0.mk (qn_ hg BK1126.out); have n13_ := Aside0.mk (Ne.symm (qn_ hg BK1126.out)); have n14_ := Aside0.mk (qn_ hg BK1127.out); have n15_ := Aside0.mk (Ne.symm (qn_ hg BK1127.out)); have n16_ := Aside0.mk (qn_ hg BK1131.out); have n17_ := Aside0.mk (Ne.symm (qn_ hg BK1131.out)); have n18_ := Aside0.mk (qn_ hg BK1135.out); have n19_ := Aside0.mk (Ne.symm (qn_ hg BK1135.out)); have n20_ := Aside0.mk (qn_ hg BK1139.out); have n21_ := Aside0.mk (Ne.symm (qn_ hg BK1139.out)); clear BK1125; clear BK1126; clear BK1127; clear BK1131; clear BK1135; clear BK1139; clear HB; have BK1125 := n0_; have BK1126 := n1_; have BK1127 := n2_; have BK1131 := n3_; have BK1135 := n4_; have BK1139 := n5_; have HB := n6_; have BK1143 := n7_; have GW1143 := n8_; have GE1143 := n9_; have NB1125_1143 := n10_; have NB1143_1125 := n11_; have NB1126_1143 := n12_; have NB1143_1126 := n13_; have NB1127_1143 := n14_; have NB1143_1127 := n15_; have NB1131_1143 := n16_; have NB1143_1131 := n17_; have NB1135_1143 := n18_; have NB1143_1135 := n19_; have NB1139_1143 := n20_; have NB1143_1139 := n21_; clear n0_ n1_ n2_ n3_ n4_ n5_ n6_ n7_ n8_ n9_ n10_ n11_ n12_ n13_ n14_ n15_ n16_ n17_ n18_ n19_ n20_ n21_; clear hb hbox hg; have hnb99 := NB1143_1125.out; have hnc99 := NB1125_1143.out; have hnb100 := NB1143_1126.out; have hnc100 := NB1126_1143.out; have hnb101 := NB1143_1127.out; have hnc101 := NB1127_1143.out; have hnb102 := NB1143_1131.out; have hnc102 := NB1131_1143.out; have hnb103 := NB1143_1135.out; have hnc103 := NB1135_1143.out; have hnb104 := NB1143_1139.out; have hnc104 := NB1139_1143.out; have hcz105_0 : w98.cell? ⟨gb1143, 0, none⟩ = some (.int .i64 0) := (blk_cell BK1143.out 0).trans rfl; have hcz105_1 : w98.cell? ⟨gb1143, 1, none⟩ = some (.int .i64 0) := (blk_cell BK1143.out 1).trans rfl; have hfz105_0 := blk_frozen BK1143.out 0; have hfz105_1 := blk_frozen BK1143.out 1; have hcz106_0 : w98.cell? ⟨gb1126, 0, none⟩ = some (.int .i64 a1_0) := (blk_cell BK1126.out 0).trans rfl; have hcz106_1 : w98.cell? ⟨gb1126, 1, none⟩ = some (.int .i64 a1_1) := (blk_cell BK1126.out 1).trans rfl; have hfz106_0 := blk_frozen BK1126.out 0; have hfz106_1 := blk_frozen BK1126.out 1; have hcz107_0 : w98.cell? ⟨gb1125, 0, none⟩ = some (.int .i64 a0_0) := (blk_cell BK1125.out 0).trans rfl; have hcz107_1 : w98.cell? ⟨gb1125, 1, none⟩ = some (.int .i64 a0_1) := (blk_cell BK1125.out 1).trans rfl; have hfz107_0 := blk_frozen BK1125.out 0; have hfz107_1 := blk_frozen BK1125.out 1) | ((with_reducible refine gate_callee (f := 54) rfl ?_); refine goesL_ (some 70) rfl rfl Tryd.func54 (by kernel_rfl) rfl #[.agg #[.int .i64 a1_0, .int .i64 a1_1], .agg #[.int .i64 a0_0, .int .i64 a0_1]] rfl qe_ ?_; (with_reducible refine (num_Mul.calls kj50 a1_0 a1_1 a0_0 a0_1 t1144 t1145 t1146 _ A84.out).mono ?_); rintro e w108 ⟨rfl, hb⟩; refine ⟨_, rfl, ?_⟩; have n0_ := Aside0.mk (blk_below (g := gb1125) (o := .cells #[.int .i64 a0_0, .int .i64 a0_1] 23 (0, 0)) (by (with_reducible repeat (first | refine blk_drewN ?_ _ | refine blk_drew ?_ | refine blk_alloc ?_ _)); refine blk_far ?_ NB1125_1143.out _; (with_reducible repeat (first | refine blk_drewN ?_ _ | refine blk_drew ?_ | refine blk_alloc ?_ _)); refine blk_far ?_ NB1125_1143.out _; (with_reducible repeat (first | refine blk_drewN ?_ _ | refine blk_drew ?_ | refine blk_alloc ?_ _)); exact BK1125.out) hb); have n1_ := Aside0.mk (blk_below (g := gb1126) (o := .cells #[.int .i64 a1_0, .int .i64 a1_1] 23 (0, 0)) (by (with_reducible repeat (first | refine blk_drewN ?_ _ | refine blk_drew ?_ | refine blk_alloc ?_ _)); refine blk_far ?_ NB1126_1143.out _; (with_reducible repeat (first | refine blk_drewN ?_ _ | refine blk_drew ?_ | refine blk_alloc ?_ _)); refine blk_far ?_ NB1126_1143.out _; (with_reducible repeat (first | refine blk_drewN ?_ _ | refine blk_drew ?_ | refine blk_alloc ?_ _)); exact BK1126.out) hb); have n2_ := Aside0.mk (blk_below (g := gb1127) (o := .cells #[.int .i64 a2_0, .int .i64 a2_1] 23 (0, 0)) (by (with_reducible repeat (first | refine blk_drewN ?_ _ | refine blk_drew ?_ | refine blk_alloc ?_ _)); refine blk_far ?_ NB1127_1143.out _; (with_reducible repeat (first | refine blk_drewN ?_ _ | refine blk_drew ?_ | refine blk_alloc ?_ _)); refine blk_far ?_ NB1127_1143.out _; (with_reducible repeat (first | refine blk_drewN ?_ _ | refine blk_drew ?_ | refine blk_alloc ?_ _)); exact BK1127.out) hb); have n3_ := Aside0.mk (blk_below (g := gb1131) (o := .cells #[.int .i64 t1128, .int .i64 t1129] 23 (0, 0)) (by (with_reducible repeat (first | refine blk_drewN ?_ _ | refine blk_drew ?_ | refine blk_alloc ?_ _)); refine blk_far ?_ NB1131_1143.out _; (with_reducible repeat (first | refine blk_drewN ?_ _ | refine blk_drew ?_ | refine blk_alloc ?_ _)); refine blk_far ?_ NB1131_1143.out _; (with_reducible repeat (first | refine blk_drewN ?_ _ | refine blk_drew ?_ | refine blk_alloc ?_ _)); exact BK1131.out) hb); have n4_ := Aside0.mk (blk_below (g := gb1135) (o := .cells #[.int .i64 t1132, .int .i64 t1133] 23 (0, 0)) (by (with_reducible repeat (first | refine blk_drewN ?_ _ | refine blk_drew ?_ | refine blk_alloc ?_ _)); refine blk_far ?_ NB1135_1143.out _; (with_reducible repeat (first | refine blk_drewN ?_ _ | refine blk_drew ?_ | refine blk_alloc ?_ _)); refine blk_far ?_ NB1135_1143.out _; (with_reducible repeat (first | refine blk_drewN ?_ _ | refine blk_drew ?_ | refine blk_alloc ?_ _)); exact BK1135.out) hb); have n5_ := Aside0.mk (blk_below (g := gb1139) (o := .cells #[.int .i64 t1136, .int .i64 t1137] 23 (0, 0)) (by (with_reducible repeat (first | refine blk_drewN ?_ _ | refine blk_drew ?_ | refine blk_alloc ?_ _)); refine blk_far ?_ NB1139_1143.out _; (with_reducible repeat (first | refine blk_drewN ?_ _ | refine blk_drew ?_ | refine blk_alloc ?_ _)); refine blk_far ?_ NB1139_1143.out _; (with_reducible repeat (first | refine blk_drewN ?_ _ | refine blk_drew ?_ | refine blk_alloc ?_ _)); exact BK1139.out) hb); have n6_ := Aside0.mk (blk_below (g := gb1143) (o := .cells #[.int .i64 t1140, .int .i64 t1141] 23 (0, 0)) (by (with_reducible repeat (first | refine blk_drewN ?_ _ | refine blk_drew ?_ | refine blk_alloc ?_ _)); refine blk_put (cs := #[.int .i64 t1140, .int .i64 0]) ?_ 1 _ rfl; (with_reducible repeat (first | refine blk_drewN ?_ _ | refine blk_drew ?_ | refine blk_alloc ?_ _)); refine blk_put (cs := #[.int .i64 0, .int .i64 0]) ?_ 0 _ rfl; (with_reducible repeat (first | refine blk_drewN ?_ _ | refine blk_drew ?_ | refine blk_alloc ?_ _)); exact BK1143.out) hb); have n7_ := Aside0.mk (below_step (q7_ HB.out GE1125.out GE1126.out GE1127.out GE1131.out GE1135.out GE1139.out GE1143.out) hb); clear BK1125; clear BK1126; clear BK1127; clear BK1131; clear BK1135; clear BK1139; clear BK1143; clear HB; have BK1125 := n0_; have BK1126 := n1_; have BK1127 := n2_; have BK1131 := n3_; have BK1135 := n4_; have BK1139 := n5_; have BK1143 := n6_; have HB := n7_; clear n0_ n1_ n2_ n3_ n4_ n5_ n6_ n7_; (try clear hb); (try clear hb2); (try clear hk); (try clear hi)) | ((with_reducible refine gate_dst (N := 14) rfl ?_); refine qx_ 14 #[.int .i64 0, .int .i64 0] 23 ?hr ?_; (case hr => first | (go_simp; done) | (go_simp; rfl)); intro gb1147 hg w109 hbox hb; have n0_ := Aside0.mk (qk_ BK1125.out hb); have n1_ := Aside0.mk (qk_ BK1126.out hb); have n2_ := Aside0.mk (qk_ BK1127.out hb); have n3_ := Aside0.mk (qk_ BK1131.out hb); have n4_ := Aside0.mk (qk_ BK1135.out hb); have n5_ := Aside0.mk (qk_ BK1139.out hb); have n6_ := Aside0.mk (qk_ BK1143.out hb); have n7_ := Aside0.mk (below_step (q7_ HB.out GE1125.out GE1126.out GE1127.out GE1131.out GE1135.out GE1139.out GE1143.out) hb); have n8_ := Aside0.mk (hbox); have n9_ := Aside0.mk (qs_ hg (q7_ HB.out GE1125.out GE1126.out GE1127.out GE1131.out GE1135.out GE1139.out GE1143.out) : w.heap.size ≤ gb1147); have n10_ := n9_; have n11_ := Aside0.mk (qn_ hg BK1125.out); have n12_ := Aside0.mk (Ne.symm (qn_ hg BK1125.out)); have n13_ := Aside0.mk (qn_ hg BK1126.out); have n14_ := Aside0.mk (Ne.symm (qn_ hg BK1126.out)); have n15_ := Aside0.mk (qn_ hg BK1127.out); have n16_ := Aside0.mk (Ne.symm (qn_ hg BK1127.out)); have n17_ := Aside0.mk (qn_ hg BK1131.out); have n18_ := Aside0.mk (Ne.symm (qn_ hg BK1131.out)); have n19_ := Aside0.mk (qn_ hg BK1135.out); have n20_ := Aside0.mk (Ne.symm (qn_ hg BK1135.out)); have n21_ := Aside0.mk (qn_ hg BK1139.out); have n22_ := Aside0.mk (Ne.symm (qn_ hg BK1139.out)); have n23_ := Aside0.mk (qn_ hg BK1143.out); have n24_ := Aside0.mk (Ne.symm (qn_ hg BK1143.out)); clear BK1125; clear BK1126; clear BK1127; clear BK1131; clear BK1135; clear BK1139; clear BK1143; clear HB; have BK1125 := n0_; have BK1126 := n1_; have BK1127 := n2_; have BK1131 := n3_; have BK1135 := n4_; have BK1139 := n5_; have BK1143 := n6_; have HB := n7_; have BK1147 := n8_; have GW1147 := n9_; have GE1147 := n10_; have NB1125_1147 := n11_; have NB1147_1125 := n12_; have NB1126_1147 := n13_; have NB1147_1126 := n14_; have NB1127_1147 := n15_; have NB1147_1127 := n16_; have NB1131_1147 := n17_; have NB1147_1131 := n18_; have NB1135_1147 := n19_; have NB1147_1135 := n20_; have NB1139_1147 := n21_; have NB1147_1139 := n22_; have NB1143_1147 := n23_; have NB1147_1143 := n24_; clear n0_ n1_ n2_ n3_ n4_ n5_ n6_ n7_ n8_ n9_ n10_ n11_ n12_ n13_ n14_ n15_ n16_ n17_ n18_ n19_ n20_ n21_ n22_ n23_ n24_; clear hb hbox hg; have hnb110 := NB1147_1125.out; have hnc110 := NB1125_1147.out; have hnb111 := NB1147_1126.out; have hnc111 := NB1126_1147.out; have hnb112 := NB1147_1127.out; have hnc112 := NB1127_1147.out; have hnb113 := NB1147_1131.out; have hnc113 := NB1131_1147.out; have hnb114 := NB1147_1135.out; have hnc114 := NB1135_1147.out; have hnb115 := NB1147_1139.out; have hnc115 := NB1139_1147.out; have hnb116 := NB1147_1143.out; have hnc116 := NB1143_1147.out; have hcz117_0 : w109.cell? ⟨gb1147, 0, none⟩ = some (.int .i64 0) := (blk_cell BK1147.out 0).trans rfl; have hcz117_1 : w109.cell? ⟨gb1147, 1, none⟩ = some (.int .i64 0) := (blk_cell BK1147.out 1).trans rfl; have hfz117_0 := blk_frozen BK1147.out 0; have hfz117_1 := blk_frozen BK1147.out 1))
              (try simp only [Act.put, List.setIfInBounds_toArray, List.set_cons_zero, List.set_cons_succ])
              go_cut [80] (fun v80 wc => ∃ (kq : Nat) (x80_84 : Bool), v80 = .bool x80_84 ∧ Aside0 (merinolaw01_NumField.j2 kq t1142 x80_84 a0_0 a0_1 a1_0 a1_1 a2_0 a2_1 t1128 t1129 t1140 t1141 = some r) ∧ Aside0 (kq ≤ kj50) ∧ Aside0 (wc.heap[gb1125]? = some (.cells #[.int .i64 a0_0, .int .i64 a0_1] 23 (0, 0))) ∧ Aside0 (wc.heap[gb1126]? = some (.cells #[.int .i64 a1_0, .int .i64 a1_1] 23 (0, 0))) ∧ Aside0 (wc.heap[gb1127]? = some (.cells #[.int .i64 a2_0, .int .i64 a2_1] 23 (0, 0))) ∧ Aside0 (wc.heap[gb1131]? = some (.cells #[.int .i64 t1128, .int .i64 t1129] 23 (0, 0))) ∧ Aside0 (wc.heap[gb1135]? = some (.cells #[.int .i64 t1132, .int .i64 t1133] 23 (0, 0))) ∧ Aside0 (wc.heap[gb1139]? = some (.cells #[.int .i64 t1136, .int .i64 t1137] 23 (0, 0))) ∧ Aside0 (wc.heap[gb1143]? = some (.cells #[.int .i64 t1140, .int .i64 t1141] 23 (0, 0))) ∧ Aside0 (wc.heap[gb1147]? = some (.cells #[.int .i64 t1144, .int .i64 t1145] 23 (0, 0))) ∧ Aside0 (Below w.heap.size w wc))
              case first =>
                have H := HC85.out
                clear HC85
                by_cases c118 : (!(t1140 == t1144) || (!(t1141 == t1145))) = true
                · rw [if_pos c118] at H
                  have c118b0 : (!(t1140 == t1144) || (!(t1141 == t1145))) = true := c118
                  clear c118
                  (first | rw [c118b0] | (simp only [i64_w, i32_w]; rw [c118b0]) | skip)
                  have H' := Aside0.mk H
                  clear H
                  have hnb119 := NB1143_1125.out
                  have hnc119 := NB1125_1143.out
                  have hnb120 := NB1143_1126.out
                  have hnc120 := NB1126_1143.out
                  have hnb121 := NB1143_1127.out
                  have hnc121 := NB1127_1143.out
                  have hnb122 := NB1143_1131.out
                  have hnc122 := NB1131_1143.out
                  have hnb123 := NB1143_1135.out
                  have hnc123 := NB1135_1143.out
                  have hnb124 := NB1143_1139.out
                  have hnc124 := NB1139_1143.out
                  have hnb125 := NB1143_1147.out
                  have hnc125 := NB1147_1143.out
                  have hcz126_0 : w109.cell? ⟨gb1143, 0, none⟩ = some (.int .i64 t1140) := (blk_cell BK1143.out 0).trans rfl
                  have hcz126_1 : w109.cell? ⟨gb1143, 1, none⟩ = some (.int .i64 t1141) := (blk_cell BK1143.out 1).trans rfl
                  have hfz126_0 := blk_frozen BK1143.out 0
                  have hfz126_1 := blk_frozen BK1143.out 1
                  have hnb127 := NB1147_1125.out
                  have hnc127 := NB1125_1147.out
                  have hnb128 := NB1147_1126.out
                  have hnc128 := NB1126_1147.out
                  have hnb129 := NB1147_1127.out
                  have hnc129 := NB1127_1147.out
                  have hnb130 := NB1147_1131.out
                  have hnc130 := NB1131_1147.out
                  have hnb131 := NB1147_1135.out
                  have hnc131 := NB1135_1147.out
                  have hnb132 := NB1147_1139.out
                  have hnc132 := NB1139_1147.out
                  have hcz133_0 : w109.cell? ⟨gb1147, 0, none⟩ = some (.int .i64 0) := (blk_cell BK1147.out 0).trans rfl
                  have hcz133_1 : w109.cell? ⟨gb1147, 1, none⟩ = some (.int .i64 0) := (blk_cell BK1147.out 1).trans rfl
                  have hfz133_0 := blk_frozen BK1147.out 0
                  have hfz133_1 := blk_frozen BK1147.out 1
                  go_wp2
                  go_meet
                  case rel => exact ⟨_, (true), (by first | rfl | (simp; done) | (simp [*]; done)), H', ⟨by have := HJ5.out; have := HJ50.out; first | omega | exact Nat.le_refl _⟩, ⟨by (with_reducible repeat (first | refine blk_drewN ?_ _ | refine blk_drew ?_ | refine blk_alloc ?_ _)); refine blk_far ?_ NB1125_1147.out _; (with_reducible repeat (first | refine blk_drewN ?_ _ | refine blk_drew ?_ | refine blk_alloc ?_ _)); refine blk_far ?_ NB1125_1147.out _; (with_reducible repeat (first | refine blk_drewN ?_ _ | refine blk_drew ?_ | refine blk_alloc ?_ _)); exact BK1125.out⟩, ⟨by (with_reducible repeat (first | refine blk_drewN ?_ _ | refine blk_drew ?_ | refine blk_alloc ?_ _)); refine blk_far ?_ NB1126_1147.out _; (with_reducible repeat (first | refine blk_drewN ?_ _ | refine blk_drew ?_ | refine blk_alloc ?_ _)); refine blk_far ?_ NB1126_1147.out _; (with_reducible repeat (first | refine blk_drewN ?_ _ | refine blk_drew ?_ | refine blk_alloc ?_ _)); exact BK1126.out⟩, ⟨by (with_reducible repeat (first | refine blk_drewN ?_ _ | refine blk_drew ?_ | refine blk_alloc ?_ _)); refine blk_far ?_ NB1127_1147.out _; (with_reducible repeat (first | refine blk_drewN ?_ _ | refine blk_drew ?_ | refine blk_alloc ?_ _)); refine blk_far ?_ NB1127_1147.out _; (with_reducible repeat (first | refine blk_drewN ?_ _ | refine blk_drew ?_ | refine blk_alloc ?_ _)); exact BK1127.out⟩, ⟨by (with_reducible repeat (first | refine blk_drewN ?_ _ | refine blk_drew ?_ | refine blk_alloc ?_ _)); refine blk_far ?_ NB1131_1147.out _; (with_reducible repeat (first | refine blk_drewN ?_ _ | refine blk_drew ?_ | refine blk_alloc ?_ _)); refine blk_far ?_ NB1131_1147.out _; (with_reducible repeat (first | refine blk_drewN ?_ _ | refine blk_drew ?_ | refine blk_alloc ?_ _)); exact BK1131.out⟩, ⟨by (with_reducible repeat (first | refine blk_drewN ?_ _ | refine blk_drew ?_ | refine blk_alloc ?_ _)); refine blk_far ?_ NB1135_1147.out _; (with_reducible repeat (first | refine blk_drewN ?_ _ | refine blk_drew ?_ | refine blk_alloc ?_ _)); refine blk_far ?_ NB1135_1147.out _; (with_reducible repeat (first | refine blk_drewN ?_ _ | refine blk_drew ?_ | refine blk_alloc ?_ _)); exact BK1135.out⟩, ⟨by (with_reducible repeat (first | refine blk_drewN ?_ _ | refine blk_drew ?_ | refine blk_alloc ?_ _)); refine blk_far ?_ NB1139_1147.out _; (with_reducible repeat (first | refine blk_drewN ?_ _ | refine blk_drew ?_ | refine blk_alloc ?_ _)); refine blk_far ?_ NB1139_1147.out _; (with_reducible repeat (first | refine blk_drewN ?_ _ | refine blk_drew ?_ | refine blk_alloc ?_ _)); exact BK1139.out⟩, ⟨by (with_reducible repeat (first | refine blk_drewN ?_ _ | refine blk_drew ?_ | refine blk_alloc ?_ _)); refine blk_far ?_ NB1143_1147.out _; (with_reducible repeat (first | refine blk_drewN ?_ _ | refine blk_drew ?_ | refine blk_alloc ?_ _)); refine blk_far ?_ NB1143_1147.out _; (with_reducible repeat (first | refine blk_drewN ?_ _ | refine blk_drew ?_ | refine blk_alloc ?_ _)); exact BK1143.out⟩, ⟨by (with_reducible repeat (first | refine blk_drewN ?_ _ | refine blk_drew ?_ | refine blk_alloc ?_ _)); refine blk_put (cs := #[.int .i64 t1144, .int .i64 0]) ?_ 1 _ rfl; (with_reducible repeat (first | refine blk_drewN ?_ _ | refine blk_drew ?_ | refine blk_alloc ?_ _)); refine blk_put (cs := #[.int .i64 0, .int .i64 0]) ?_ 0 _ rfl; (with_reducible repeat (first | refine blk_drewN ?_ _ | refine blk_drew ?_ | refine blk_alloc ?_ _)); exact BK1147.out⟩, ⟨(q8_ HB.out GE1125.out GE1126.out GE1127.out GE1131.out GE1135.out GE1139.out GE1143.out GE1147.out)⟩⟩
                · rw [if_neg c118] at H
                  have c118b0 : (!(t1140 == t1144) || (!(t1141 == t1145))) = false := by simpa using c118
                  clear c118
                  (first | rw [c118b0] | (simp only [i64_w, i32_w]; rw [c118b0]) | skip)
                  have H' := Aside0.mk H
                  clear H
                  have hnb134 := NB1143_1125.out
                  have hnc134 := NB1125_1143.out
                  have hnb135 := NB1143_1126.out
                  have hnc135 := NB1126_1143.out
                  have hnb136 := NB1143_1127.out
                  have hnc136 := NB1127_1143.out
                  have hnb137 := NB1143_1131.out
                  have hnc137 := NB1131_1143.out
                  have hnb138 := NB1143_1135.out
                  have hnc138 := NB1135_1143.out
                  have hnb139 := NB1143_1139.out
                  have hnc139 := NB1139_1143.out
                  have hnb140 := NB1143_1147.out
                  have hnc140 := NB1147_1143.out
                  have hcz141_0 : w109.cell? ⟨gb1143, 0, none⟩ = some (.int .i64 t1140) := (blk_cell BK1143.out 0).trans rfl
                  have hcz141_1 : w109.cell? ⟨gb1143, 1, none⟩ = some (.int .i64 t1141) := (blk_cell BK1143.out 1).trans rfl
                  have hfz141_0 := blk_frozen BK1143.out 0
                  have hfz141_1 := blk_frozen BK1143.out 1
                  have hnb142 := NB1147_1125.out
                  have hnc142 := NB1125_1147.out
                  have hnb143 := NB1147_1126.out
                  have hnc143 := NB1126_1147.out
                  have hnb144 := NB1147_1127.out
                  have hnc144 := NB1127_1147.out
                  have hnb145 := NB1147_1131.out
                  have hnc145 := NB1131_1147.out
                  have hnb146 := NB1147_1135.out
                  have hnc146 := NB1135_1147.out
                  have hnb147 := NB1147_1139.out
                  have hnc147 := NB1139_1147.out
                  have hcz148_0 : w109.cell? ⟨gb1147, 0, none⟩ = some (.int .i64 0) := (blk_cell BK1147.out 0).trans rfl
                  have hcz148_1 : w109.cell? ⟨gb1147, 1, none⟩ = some (.int .i64 0) := (blk_cell BK1147.out 1).trans rfl
                  have hfz148_0 := blk_frozen BK1147.out 0
                  have hfz148_1 := blk_frozen BK1147.out 1
                  go_wp2
                  go_meet
                  case rel => exact ⟨_, ((t1142 != t1146)), (by first | rfl | (simp; done) | (simp [*]; done)), H', ⟨by have := HJ5.out; have := HJ50.out; first | omega | exact Nat.le_refl _⟩, ⟨by (with_reducible repeat (first | refine blk_drewN ?_ _ | refine blk_drew ?_ | refine blk_alloc ?_ _)); refine blk_far ?_ NB1125_1147.out _; (with_reducible repeat (first | refine blk_drewN ?_ _ | refine blk_drew ?_ | refine blk_alloc ?_ _)); refine blk_far ?_ NB1125_1147.out _; (with_reducible repeat (first | refine blk_drewN ?_ _ | refine blk_drew ?_ | refine blk_alloc ?_ _)); exact BK1125.out⟩, ⟨by (with_reducible repeat (first | refine blk_drewN ?_ _ | refine blk_drew ?_ | refine blk_alloc ?_ _)); refine blk_far ?_ NB1126_1147.out _; (with_reducible repeat (first | refine blk_drewN ?_ _ | refine blk_drew ?_ | refine blk_alloc ?_ _)); refine blk_far ?_ NB1126_1147.out _; (with_reducible repeat (first | refine blk_drewN ?_ _ | refine blk_drew ?_ | refine blk_alloc ?_ _)); exact BK1126.out⟩, ⟨by (with_reducible repeat (first | refine blk_drewN ?_ _ | refine blk_drew ?_ | refine blk_alloc ?_ _)); refine blk_far ?_ NB1127_1147.out _; (with_reducible repeat (first | refine blk_drewN ?_ _ | refine blk_drew ?_ | refine blk_alloc ?_ _)); refine blk_far ?_ NB1127_1147.out _; (with_reducible repeat (first | refine blk_drewN ?_ _ | refine blk_drew ?_ | refine blk_alloc ?_ _)); exact BK1127.out⟩, ⟨by (with_reducible repeat (first | refine blk_drewN ?_ _ | refine blk_drew ?_ | refine blk_alloc ?_ _)); refine blk_far ?_ NB1131_1147.out _; (with_reducible repeat (first | refine blk_drewN ?_ _ | refine blk_drew ?_ | refine blk_alloc ?_ _)); refine blk_far ?_ NB1131_1147.out _; (with_reducible repeat (first | refine blk_drewN ?_ _ | refine blk_drew ?_ | refine blk_alloc ?_ _)); exact BK1131.out⟩, ⟨by (with_reducible repeat (first | refine blk_drewN ?_ _ | refine blk_drew ?_ | refine blk_alloc ?_ _)); refine blk_far ?_ NB1135_1147.out _; (with_reducible repeat (first | refine blk_drewN ?_ _ | refine blk_drew ?_ | refine blk_alloc ?_ _)); refine blk_far ?_ NB1135_1147.out _; (with_reducible repeat (first | refine blk_drewN ?_ _ | refine blk_drew ?_ | refine blk_alloc ?_ _)); exact BK1135.out⟩, ⟨by (with_reducible repeat (first | refine blk_drewN ?_ _ | refine blk_drew ?_ | refine blk_alloc ?_ _)); refine blk_far ?_ NB1139_1147.out _; (with_reducible repeat (first | refine blk_drewN ?_ _ | refine blk_drew ?_ | refine blk_alloc ?_ _)); refine blk_far ?_ NB1139_1147.out _; (with_reducible repeat (first | refine blk_drewN ?_ _ | refine blk_drew ?_ | refine blk_alloc ?_ _)); exact BK1139.out⟩, ⟨by (with_reducible repeat (first | refine blk_drewN ?_ _ | refine blk_drew ?_ | refine blk_alloc ?_ _)); refine blk_far ?_ NB1143_1147.out _; (with_reducible repeat (first | refine blk_drewN ?_ _ | refine blk_drew ?_ | refine blk_alloc ?_ _)); refine blk_far ?_ NB1143_1147.out _; (with_reducible repeat (first | refine blk_drewN ?_ _ | refine blk_drew ?_ | refine blk_alloc ?_ _)); exact BK1143.out⟩, ⟨by (with_reducible repeat (first | refine blk_drewN ?_ _ | refine blk_drew ?_ | refine blk_alloc ?_ _)); refine blk_put (cs := #[.int .i64 t1144, .int .i64 0]) ?_ 1 _ rfl; (with_reducible repeat (first | refine blk_drewN ?_ _ | refine blk_drew ?_ | refine blk_alloc ?_ _)); refine blk_put (cs := #[.int .i64 0, .int .i64 0]) ?_ 0 _ rfl; (with_reducible repeat (first | refine blk_drewN ?_ _ | refine blk_drew ?_ | refine blk_alloc ?_ _)); exact BK1147.out⟩, ⟨(q8_ HB.out GE1125.out GE1126.out GE1127.out GE1131.out GE1135.out GE1139.out GE1143.out GE1147.out)⟩⟩
              case rest =>
                clear HC85
                try clear c1
                try clear c2
                try clear p2
                try clear c3
                try clear c4
                try clear c5
                try clear c6
                try clear c7
                try clear c8
                try clear c9
                try clear c10
                try clear c11
                try clear c12
                try clear c13
                try clear c14
                try clear c17
                try clear c18
                try clear c19
                try clear c25
                try clear c26
                try clear c27
                try clear c28
                try clear c30
                try clear c30b0
                try clear c31
                try clear c32
                try clear c33
                try clear c34
                try clear c36
                try clear c37
                try clear c38
                try clear c40
                try clear c41
                try clear c42
                try clear c43
                try clear c45
                try clear c46
                try clear c47
                try clear c49
                try clear c52
                try clear c53
                try clear c54
                try clear c55
                try clear c57
                try clear c58
                try clear c59
                try clear c63
                try clear c64
                try clear c65
                try clear c66
                try clear c67
                try clear c69
                try clear c69b0
                try clear c69b1
                try clear c70
                try clear c70b0
                try clear c70b1
                try clear c71
                try clear c72
                try clear c73
                try clear c74
                try clear c75
                try clear c77
                try clear c78
                try clear c79
                try clear c80
                try clear c82
                try clear c86
                try clear c87
                try clear c88
                try clear c89
                try clear c90
                try clear c92
                try clear c93
                try clear c94
                try clear c95
                try clear c99
                try clear c100
                try clear c101
                try clear c102
                try clear c103
                try clear c104
                try clear c110
                try clear c111
                try clear c112
                try clear c113
                try clear c114
                try clear c115
                try clear c116
                try clear c118
                try clear c118b0
                try clear c119
                try clear c120
                try clear c121
                try clear c122
                try clear c123
                try clear c124
                try clear c125
                try clear c127
                try clear c128
                try clear c129
                try clear c130
                try clear c131
                try clear c132
                try clear c134
                try clear c135
                try clear c136
                try clear c137
                try clear c138
                try clear c139
                try clear c140
                try clear c142
                try clear c143
                try clear c144
                try clear c145
                try clear c146
                try clear c147
                try clear hcz105_0
                try clear hcz105_1
                try clear hcz106_0
                try clear hcz106_1
                try clear hcz107_0
                try clear hcz107_1
                try clear hcz117_0
                try clear hcz117_1
                try clear hcz126_0
                try clear hcz126_1
                try clear hcz12_0
                try clear hcz12_1
                try clear hcz133_0
                try clear hcz133_1
                try clear hcz141_0
                try clear hcz141_1
                try clear hcz148_0
                try clear hcz148_1
                try clear hcz14_0
                try clear hcz14_1
                try clear hcz20_0
                try clear hcz20_1
                try clear hcz21_0
                try clear hcz21_1
                try clear hcz22_0
                try clear hcz22_1
                try clear hcz29_0
                try clear hcz29_1
                try clear hcz35_0
                try clear hcz35_1
                try clear hcz39_0
                try clear hcz39_1
                try clear hcz44_0
                try clear hcz44_1
                try clear hcz48_0
                try clear hcz48_1
                try clear hcz56_0
                try clear hcz56_1
                try clear hcz60_0
                try clear hcz60_1
                try clear hcz68_0
                try clear hcz68_1
                try clear hcz76_0
                try clear hcz76_1
                try clear hcz81_0
                try clear hcz81_1
                try clear hcz91_0
                try clear hcz91_1
                try clear hcz96_0
                try clear hcz96_1
                try clear hfz105_0
                try clear hfz105_1
                try clear hfz106_0
                try clear hfz106_1
                try clear hfz107_0
                try clear hfz107_1
                try clear hfz117_0
                try clear hfz117_1
                try clear hfz126_0
                try clear hfz126_1
                try clear hfz12_0
                try clear hfz12_1
                try clear hfz133_0
                try clear hfz133_1
                try clear hfz141_0
                try clear hfz141_1
                try clear hfz148_0
                try clear hfz148_1
                try clear hfz14_0
                try clear hfz14_1
                try clear hfz20_0
                try clear hfz20_1
                try clear hfz21_0
                try clear hfz21_1
                try clear hfz22_0
                try clear hfz22_1
                try clear hfz29_0
                try clear hfz29_1
                try clear hfz35_0
                try clear hfz35_1
                try clear hfz39_0
                try clear hfz39_1
                try clear hfz44_0
                try clear hfz44_1
                try clear hfz48_0
                try clear hfz48_1
                try clear hfz56_0
                try clear hfz56_1
                try clear hfz60_0
                try clear hfz60_1
                try clear hfz68_0
                try clear hfz68_1
                try clear hfz76_0
                try clear hfz76_1
                try clear hfz81_0
                try clear hfz81_1
                try clear hfz91_0
                try clear hfz91_1
                try clear hfz96_0
                try clear hfz96_1
                try clear p2
                obtain ⟨kq, x80_84, rfl, HA, HJ84, BK1125, BK1126, BK1127, BK1131, BK1135, BK1139, BK1143, BK1147, HB⟩ := hcut
                cases kq with
                | zero => exact absurd HA.out (by simp [merinolaw01_NumField.j2])
                | succ kj84 =>
                  have H := HA.out
                  clear HA
                  simp only [merinolaw01_NumField.j2] at H
                  by_cases c149 : x80_84 = true
                  · subst c149
                    have H1 : (none) = some r := by rw [if_pos rfl] at H; exact H
                    clear H
                    have H := H1
                    clear H1
                    exact absurd H (by simp)
                  · replace c149 := Bool.eq_false_iff.mpr c149
                    subst c149
                    have H1 : ((num_Div.f kj84 t1140 t1141 a1_0 a1_1).bind fun bt1148 => (if t1142 = 0 then (if a1_0 = 0 then (merinolaw01_NumField.j3 kj84 false a0_0 a0_1 a1_0 a1_1 a2_0 a2_1 t1128 t1129 t1140 t1141) else (if bt1148.2.2 = 0 then (merinolaw01_NumField.j3 kj84 (!(bt1148.1 == a0_0) || (!(bt1148.2.1 == a0_1))) a0_0 a0_1 a1_0 a1_1 a2_0 a2_1 t1128 t1129 t1140 t1141) else (merinolaw01_NumField.j3 kj84 true a0_0 a0_1 a1_0 a1_1 a2_0 a2_1 t1128 t1129 t1140 t1141))) else (merinolaw01_NumField.j3 kj84 false a0_0 a0_1 a1_0 a1_1 a2_0 a2_1 t1128 t1129 t1140 t1141))) = some r := by rw [if_neg (show ¬ (false = true) by decide)] at H; exact H
                    clear H
                    have H := H1
                    clear H1
                    replace H := Option.bind_eq_some_iff.mp H
                    obtain ⟨⟨t1148, t1149, t1150⟩, A1500, H⟩ := H
                    replace H : (if t1142 = 0 then (if a1_0 = 0 then (merinolaw01_NumField.j3 kj84 false a0_0 a0_1 a1_0 a1_1 a2_0 a2_1 t1128 t1129 t1140 t1141) else (if t1150 = 0 then (merinolaw01_NumField.j3 kj84 (!(t1148 == a0_0) || (!(t1149 == a0_1))) a0_0 a0_1 a1_0 a1_1 a2_0 a2_1 t1128 t1129 t1140 t1141) else (merinolaw01_NumField.j3 kj84 true a0_0 a0_1 a1_0 a1_1 a2_0 a2_1 t1128 t1129 t1140 t1141))) else (merinolaw01_NumField.j3 kj84 false a0_0 a0_1 a1_0 a1_1 a2_0 a2_1 t1128 t1129 t1140 t1141)) = some r := H
                    have A150 := Aside0.mk A1500
                    clear A1500
                    have HC151 := Aside0.mk H
                    clear H
                    have hnb152 := NB1143_1125.out
                    have hnc152 := NB1125_1143.out
                    have hnb153 := NB1143_1126.out
                    have hnc153 := NB1126_1143.out
                    have hnb154 := NB1143_1127.out
                    have hnc154 := NB1127_1143.out
                    have hnb155 := NB1143_1131.out
                    have hnc155 := NB1131_1143.out
                    have hnb156 := NB1143_1135.out
                    have hnc156 := NB1135_1143.out
                    have hnb157 := NB1143_1139.out
                    have hnc157 := NB1139_1143.out
                    have hnb158 := NB1143_1147.out
                    have hnc158 := NB1147_1143.out
                    have hcz159_0 : wc.cell? ⟨gb1143, 0, none⟩ = some (.int .i64 t1140) := (blk_cell BK1143.out 0).trans rfl
                    have hcz159_1 : wc.cell? ⟨gb1143, 1, none⟩ = some (.int .i64 t1141) := (blk_cell BK1143.out 1).trans rfl
                    have hfz159_0 := blk_frozen BK1143.out 0
                    have hfz159_1 := blk_frozen BK1143.out 1
                    have hnb160 := NB1126_1125.out
                    have hnc160 := NB1125_1126.out
                    have hnb161 := NB1126_1127.out
                    have hnc161 := NB1127_1126.out
                    have hnb162 := NB1126_1131.out
                    have hnc162 := NB1131_1126.out
                    have hnb163 := NB1126_1135.out
                    have hnc163 := NB1135_1126.out
                    have hnb164 := NB1126_1139.out
                    have hnc164 := NB1139_1126.out
                    have hnb165 := NB1126_1147.out
                    have hnc165 := NB1147_1126.out
                    have hcz166_0 : wc.cell? ⟨gb1126, 0, none⟩ = some (.int .i64 a1_0) := (blk_cell BK1126.out 0).trans rfl
                    have hcz166_1 : wc.cell? ⟨gb1126, 1, none⟩ = some (.int .i64 a1_1) := (blk_cell BK1126.out 1).trans rfl
                    have hfz166_0 := blk_frozen BK1126.out 0
                    have hfz166_1 := blk_frozen BK1126.out 1
                    go_upto_region 13 with (first | ((with_reducible refine gate_callee (f := 55) rfl ?_); refine goesL_ (some 84) rfl rfl Tryd.func55 (by kernel_rfl) rfl #[.agg #[.int .i64 t1140, .int .i64 t1141], .agg #[.int .i64 a1_0, .int .i64 a1_1]] rfl qe_ ?_; (with_reducible refine (num_Div.calls kj84 t1140 t1141 a1_0 a1_1 t1148 t1149 t1150 _ A150.out).mono ?_); rintro e w167 ⟨rfl, hb⟩; refine ⟨_, rfl, ?_⟩; have n0_ := Aside0.mk (qk_ BK1125.out hb); have n1_ := Aside0.mk (qk_ BK1126.out hb); have n2_ := Aside0.mk (qk_ BK1127.out hb); have n3_ := Aside0.mk (qk_ BK1131.out hb); have n4_ := Aside0.mk (qk_ BK1135.out hb); have n5_ := Aside0.mk (qk_ BK1139.out hb); have n6_ := Aside0.mk (qk_ BK1143.out hb); have n7_ := Aside0.mk (qk_ BK1147.out hb); have n8_ := Aside0.mk (below_step (q8_ HB.out GE1125.out GE1126.out GE1127.out GE1131.out GE1135.out GE1139.out GE1143.out GE1147.out) hb); clear BK1125; clear BK1126; clear BK1127; clear BK1131; clear BK1135; clear BK1139; clear BK1143; clear BK1147; clear HB; have BK1125 := n0_; have BK1126 := n1_; have BK1127 := n2_; have BK1131 := n3_; have BK1135 := n4_; have BK1139 := n5_; have BK1143 := n6_; have BK1147 := n7_; have HB := n8_; clear n0_ n1_ n2_ n3_ n4_ n5_ n6_ n7_ n8_; (try clear hb); (try clear hb2); (try clear hk); (try clear hi)) | ((with_reducible refine gate_dst (N := 16) rfl ?_); refine qx_ 16 #[.int .i64 0, .int .i64 0] 23 ?hr ?_; (case hr => first | (go_simp; done) | (go_simp; rfl)); intro gb1151 hg w168 hbox hb; have n0_ := Aside0.mk (qk_ BK1125.out hb); have n1_ := Aside0.mk (qk_ BK1126.out hb); have n2_ := Aside0.mk (qk_ BK1127.out hb); have n3_ := Aside0.mk (qk_ BK1131.out hb); have n4_ := Aside0.mk (qk_ BK1135.out hb); have n5_ := Aside0.mk (qk_ BK1139.out hb); have n6_ := Aside0.mk (qk_ BK1143.out hb); have n7_ := Aside0.mk (qk_ BK1147.out hb); have n8_ := Aside0.mk (below_step (q8_ HB.out GE1125.out GE1126.out GE1127.out GE1131.out GE1135.out GE1139.out GE1143.out GE1147.out) hb); have n9_ := Aside0.mk (hbox); have n10_ := Aside0.mk (qs_ hg (q8_ HB.out GE1125.out GE1126.out GE1127.out GE1131.out GE1135.out GE1139.out GE1143.out GE1147.out) : w.heap.size ≤ gb1151); have n11_ := n10_; have n12_ := Aside0.mk (qn_ hg BK1125.out); have n13_ := Aside0.mk (Ne.symm (qn_ hg BK1125.out)); have n14_ := Aside0.mk (qn_ hg BK1126.out); have n15_ := Aside0.mk (Ne.symm (qn_ hg BK1126.out)); have n16_ := Aside0.mk (qn_ hg BK1127.out); have n17_ := Aside0.mk (Ne.symm (qn_ hg BK1127.out)); have n18_ := Aside0.mk (qn_ hg BK1131.out); have n19_ := Aside0.mk (Ne.symm (qn_ hg BK1131.out)); have n20_ := Aside0.mk (qn_ hg BK1135.out); have n21_ := Aside0.mk (Ne.symm (qn_ hg BK1135.out)); have n22_ := Aside0.mk (qn_ hg BK1139.out); have n23_ := Aside0.mk (Ne.symm (qn_ hg BK1139.out)); have n24_ := Aside0.mk (qn_ hg BK1143.out); have n25_ := Aside0.mk (Ne.symm (qn_ hg BK1143.out)); have n26_ := Aside0.mk (qn_ hg BK1147.out); have n27_ := Aside0.mk (Ne.symm (qn_ hg BK1147.out)); clear BK1125; clear BK1126; clear BK1127; clear BK1131; clear BK1135; clear BK1139; clear BK1143; clear BK1147; clear HB; have BK1125 := n0_; have BK1126 := n1_; have BK1127 := n2_; have BK1131 := n3_; have BK1135 := n4_; have BK1139 := n5_; have BK1143 := n6_; have BK1147 := n7_; have HB := n8_; have BK1151 := n9_; have GW1151 := n10_; have GE1151 := n11_; have NB1125_1151 := n12_; have NB1151_1125 := n13_; have NB1126_1151 := n14_; have NB1151_1126 := n15_; have NB1127_1151 := n16_; have NB1151_1127 := n17_; have NB1131_1151 := n18_; have NB1151_1131 := n19_; have NB1135_1151 := n20_; have NB1151_1135 := n21_; have NB1139_1151 := n22_; have NB1151_1139 := n23_; have NB1143_1151 := n24_; have NB1151_1143 := n25_; have NB1147_1151 := n26_; have NB1151_1147 := n27_; clear n0_ n1_ n2_ n3_ n4_ n5_ n6_ n7_ n8_ n9_ n10_ n11_ n12_ n13_ n14_ n15_ n16_ n17_ n18_ n19_ n20_ n21_ n22_ n23_ n24_ n25_ n26_ n27_; clear hb hbox hg; have hnb169 := NB1151_1125.out; have hnc169 := NB1125_1151.out; have hnb170 := NB1151_1126.out; have hnc170 := NB1126_1151.out; have hnb171 := NB1151_1127.out; have hnc171 := NB1127_1151.out; have hnb172 := NB1151_1131.out; have hnc172 := NB1131_1151.out; have hnb173 := NB1151_1135.out; have hnc173 := NB1135_1151.out; have hnb174 := NB1151_1139.out; have hnc174 := NB1139_1151.out; have hnb175 := NB1151_1143.out; have hnc175 := NB1143_1151.out; have hnb176 := NB1151_1147.out; have hnc176 := NB1147_1151.out; have hcz177_0 : w168.cell? ⟨gb1151, 0, none⟩ = some (.int .i64 0) := (blk_cell BK1151.out 0).trans rfl; have hcz177_1 : w168.cell? ⟨gb1151, 1, none⟩ = some (.int .i64 0) := (blk_cell BK1151.out 1).trans rfl; have hfz177_0 := blk_frozen BK1151.out 0; have hfz177_1 := blk_frozen BK1151.out 1))
                    (try simp only [Act.put, List.setIfInBounds_toArray, List.set_cons_zero, List.set_cons_succ])
                    go_cut [102] (fun v102 wc => ∃ (kq : Nat) (x102_150 : Bool), v102 = .bool x102_150 ∧ Aside0 (merinolaw01_NumField.j3 kq x102_150 a0_0 a0_1 a1_0 a1_1 a2_0 a2_1 t1128 t1129 t1140 t1141 = some r) ∧ Aside0 (kq ≤ kj84) ∧ Aside0 (wc.heap[gb1125]? = some (.cells #[.int .i64 a0_0, .int .i64 a0_1] 23 (0, 0))) ∧ Aside0 (wc.heap[gb1126]? = some (.cells #[.int .i64 a1_0, .int .i64 a1_1] 23 (0, 0))) ∧ Aside0 (wc.heap[gb1127]? = some (.cells #[.int .i64 a2_0, .int .i64 a2_1] 23 (0, 0))) ∧ Aside0 (wc.heap[gb1131]? = some (.cells #[.int .i64 t1128, .int .i64 t1129] 23 (0, 0))) ∧ Aside0 (wc.heap[gb1135]? = some (.cells #[.int .i64 t1132, .int .i64 t1133] 23 (0, 0))) ∧ Aside0 (wc.heap[gb1139]? = some (.cells #[.int .i64 t1136, .int .i64 t1137] 23 (0, 0))) ∧ Aside0 (wc.heap[gb1143]? = some (.cells #[.int .i64 t1140, .int .i64 t1141] 23 (0, 0))) ∧ Aside0 (wc.heap[gb1147]? = some (.cells #[.int .i64 t1144, .int .i64 t1145] 23 (0, 0))) ∧ Aside0 (wc.heap[gb1151]? = some (.cells #[.int .i64 t1148, .int .i64 t1149] 23 (0, 0))) ∧ Aside0 (Below w.heap.size w wc))
                    case first =>
                      have H := HC151.out
                      clear HC151
                      by_cases c178 : t1142 = 0
                      · rw [if_pos c178] at H
                        have c178b0 : (t1142 == 0) = true := beq_iff_eq.mpr c178
                        have c178b1 : (t1142 != 0) = false := bne_eq_false_iff_eq.mpr c178
                        clear c178
                        (first | rw [c178b0] | (simp only [i64_w, i32_w]; rw [c178b0]) | skip)
                        by_cases c179 : a1_0 = 0
                        · rw [if_pos c179] at H
                          have c179b0 : (a1_0 == 0) = true := beq_iff_eq.mpr c179
                          have c179b1 : (a1_0 != 0) = false := bne_eq_false_iff_eq.mpr c179
                          clear c179
                          have H' := Aside0.mk H
                          clear H
                          have hnb180 := NB1126_1125.out
                          have hnc180 := NB1125_1126.out
                          have hnb181 := NB1126_1127.out
                          have hnc181 := NB1127_1126.out
                          have hnb182 := NB1126_1131.out
                          have hnc182 := NB1131_1126.out
                          have hnb183 := NB1126_1135.out
                          have hnc183 := NB1135_1126.out
                          have hnb184 := NB1126_1139.out
                          have hnc184 := NB1139_1126.out
                          have hnb185 := NB1126_1143.out
                          have hnc185 := NB1143_1126.out
                          have hnb186 := NB1126_1147.out
                          have hnc186 := NB1147_1126.out
                          have hnb187 := NB1126_1151.out
                          have hnc187 := NB1151_1126.out
                          have hcz188_0 : w168.cell? ⟨gb1126, 0, none⟩ = some (.int .i64 a1_0) := (blk_cell BK1126.out 0).trans rfl
                          have hcz188_1 : w168.cell? ⟨gb1126, 1, none⟩ = some (.int .i64 a1_1) := (blk_cell BK1126.out 1).trans rfl
                          have hfz188_0 := blk_frozen BK1126.out 0
                          have hfz188_1 := blk_frozen BK1126.out 1
                          go_wp2
                          go_meet
                          case rel => exact ⟨_, (false), (by first | rfl | (simp; done) | (simp [*]; done)), H', ⟨by have := HJ5.out; have := HJ50.out; have := HJ84.out; first | omega | exact Nat.le_refl _⟩, ⟨by (with_reducible repeat (first | refine blk_drewN ?_ _ | refine blk_drew ?_ | refine blk_alloc ?_ _)); refine blk_far ?_ NB1125_1151.out _; (with_reducible repeat (first | refine blk_drewN ?_ _ | refine blk_drew ?_ | refine blk_alloc ?_ _)); refine blk_far ?_ NB1125_1151.out _; (with_reducible repeat (first | refine blk_drewN ?_ _ | refine blk_drew ?_ | refine blk_alloc ?_ _)); exact BK1125.out⟩, ⟨by (with_reducible repeat (first | refine blk_drewN ?_ _ | refine blk_drew ?_ | refine blk_alloc ?_ _)); refine blk_far ?_ NB1126_1151.out _; (with_reducible repeat (first | refine blk_drewN ?_ _ | refine blk_drew ?_ | refine blk_alloc ?_ _)); refine blk_far ?_ NB1126_1151.out _; (with_reducible repeat (first | refine blk_drewN ?_ _ | refine blk_drew ?_ | refine blk_alloc ?_ _)); exact BK1126.out⟩, ⟨by (with_reducible repeat (first | refine blk_drewN ?_ _ | refine blk_drew ?_ | refine blk_alloc ?_ _)); refine blk_far ?_ NB1127_1151.out _; (with_reducible repeat (first | refine blk_drewN ?_ _ | refine blk_drew ?_ | refine blk_alloc ?_ _)); refine blk_far ?_ NB1127_1151.out _; (with_reducible repeat (first | refine blk_drewN ?_ _ | refine blk_drew ?_ | refine blk_alloc ?_ _)); exact BK1127.out⟩, ⟨by (with_reducible repeat (first | refine blk_drewN ?_ _ | refine blk_drew ?_ | refine blk_alloc ?_ _)); refine blk_far ?_ NB1131_1151.out _; (with_reducible repeat (first | refine blk_drewN ?_ _ | refine blk_drew ?_ | refine blk_alloc ?_ _)); refine blk_far ?_ NB1131_1151.out _; (with_reducible repeat (first | refine blk_drewN ?_ _ | refine blk_drew ?_ | refine blk_alloc ?_ _)); exact BK1131.out⟩, ⟨by (with_reducible repeat (first | refine blk_drewN ?_ _ | refine blk_drew ?_ | refine blk_alloc ?_ _)); refine blk_far ?_ NB1135_1151.out _; (with_reducible repeat (first | refine blk_drewN ?_ _ | refine blk_drew ?_ | refine blk_alloc ?_ _)); refine blk_far ?_ NB1135_1151.out _; (with_reducible repeat (first | refine blk_drewN ?_ _ | refine blk_drew ?_ | refine blk_alloc ?_ _)); exact BK1135.out⟩, ⟨by (with_reducible repeat (first | refine blk_drewN ?_ _ | refine blk_drew ?_ | refine blk_alloc ?_ _)); refine blk_far ?_ NB1139_1151.out _; (with_reducible repeat (first | refine blk_drewN ?_ _ | refine blk_drew ?_ | refine blk_alloc ?_ _)); refine blk_far ?_ NB1139_1151.out _; (with_reducible repeat (first | refine blk_drewN ?_ _ | refine blk_drew ?_ | refine blk_alloc ?_ _)); exact BK1139.out⟩, ⟨by (with_reducible repeat (first | refine blk_drewN ?_ _ | refine blk_drew ?_ | refine blk_alloc ?_ _)); refine blk_far ?_ NB1143_1151.out _; (with_reducible repeat (first | refine blk_drewN ?_ _ | refine blk_drew ?_ | refine blk_alloc ?_ _)); refine blk_far ?_ NB1143_1151.out _; (with_reducible repeat (first | refine blk_drewN ?_ _ | refine blk_drew ?_ | refine blk_alloc ?_ _)); exact BK1143.out⟩, ⟨by (with_reducible repeat (first | refine blk_drewN ?_ _ | refine blk_drew ?_ | refine blk_alloc ?_ _)); refine blk_far ?_ NB1147_1151.out _; (with_reducible repeat (first | refine blk_drewN ?_ _ | refine blk_drew ?_ | refine blk_alloc ?_ _)); refine blk_far ?_ NB1147_1151.out _; (with_reducible repeat (first | refine blk_drewN ?_ _ | refine blk_drew ?_ | refine blk_alloc ?_ _)); exact BK1147.out⟩, ⟨by (with_reducible repeat (first | refine blk_drewN ?_ _ | refine blk_drew ?_ | refine blk_alloc ?_ _)); refine blk_put (cs := #[.int .i64 t1148, .int .i64 0]) ?_ 1 _ rfl; (with_reducible repeat (first | refine blk_drewN ?_ _ | refine blk_drew ?_ | refine blk_alloc ?_ _)); refine blk_put (cs := #[.int .i64 0, .int .i64 0]) ?_ 0 _ rfl; (with_reducible repeat (first | refine blk_drewN ?_ _ | refine blk_drew ?_ | refine blk_alloc ?_ _)); exact BK1151.out⟩, ⟨by repeat (first | (with_reducible first | exact HB.out | apply below_alloc | apply pw_below_drewN | apply below_drew1 | refine below_set ?_ GE1125.out | refine below_set ?_ GE1126.out | refine below_set ?_ GE1127.out | refine below_set ?_ GE1131.out | refine below_set ?_ GE1135.out | refine below_set ?_ GE1139.out | refine below_set ?_ GE1143.out | refine below_set ?_ GE1147.out | refine below_set ?_ GE1151.out) | exact HB.out)⟩⟩
                        · rw [if_neg c179] at H
                          have c179b0 : (a1_0 == 0) = false := beq_eq_false_iff_ne.mpr c179
                          have c179b1 : (a1_0 != 0) = true := bne_iff_ne.mpr c179
                          by_cases c189 : t1150 = 0
                          · rw [if_pos c189] at H
                            have c189b0 : (t1150 == 0) = true := beq_iff_eq.mpr c189
                            have c189b1 : (t1150 != 0) = false := bne_eq_false_iff_eq.mpr c189
                            clear c189
                            have H' := Aside0.mk H
                            clear H
                            have hnb190 := NB1126_1125.out
                            have hnc190 := NB1125_1126.out
                            have hnb191 := NB1126_1127.out
                            have hnc191 := NB1127_1126.out
                            have hnb192 := NB1126_1131.out
                            have hnc192 := NB1131_1126.out
                            have hnb193 := NB1126_1135.out
                            have hnc193 := NB1135_1126.out
                            have hnb194 := NB1126_1139.out
                            have hnc194 := NB1139_1126.out
                            have hnb195 := NB1126_1143.out
                            have hnc195 := NB1143_1126.out
                            have hnb196 := NB1126_1147.out
                            have hnc196 := NB1147_1126.out
                            have hnb197 := NB1126_1151.out
                            have hnc197 := NB1151_1126.out
                            have hcz198_0 : w168.cell? ⟨gb1126, 0, none⟩ = some (.int .i64 a1_0) := (blk_cell BK1126.out 0).trans rfl
                            have hcz198_1 : w168.cell? ⟨gb1126, 1, none⟩ = some (.int .i64 a1_1) := (blk_cell BK1126.out 1).trans rfl
                            have hfz198_0 := blk_frozen BK1126.out 0
                            have hfz198_1 := blk_frozen BK1126.out 1
                            have hnb199 := NB1151_1125.out
                            have hnc199 := NB1125_1151.out
                            have hnb200 := NB1151_1127.out
                            have hnc200 := NB1127_1151.out
                            have hnb201 := NB1151_1131.out
                            have hnc201 := NB1131_1151.out
                            have hnb202 := NB1151_1135.out
                            have hnc202 := NB1135_1151.out
                            have hnb203 := NB1151_1139.out
                            have hnc203 := NB1139_1151.out
                            have hnb204 := NB1151_1143.out
                            have hnc204 := NB1143_1151.out
                            have hnb205 := NB1151_1147.out
                            have hnc205 := NB1147_1151.out
                            have hcz206_0 : w168.cell? ⟨gb1151, 0, none⟩ = some (.int .i64 0) := (blk_cell BK1151.out 0).trans rfl
                            have hcz206_1 : w168.cell? ⟨gb1151, 1, none⟩ = some (.int .i64 0) := (blk_cell BK1151.out 1).trans rfl
                            have hfz206_0 := blk_frozen BK1151.out 0
                            have hfz206_1 := blk_frozen BK1151.out 1
                            have hnb207 := NB1125_1127.out
                            have hnc207 := NB1127_1125.out
                            have hnb208 := NB1125_1131.out
                            have hnc208 := NB1131_1125.out
                            have hnb209 := NB1125_1135.out
                            have hnc209 := NB1135_1125.out
                            have hnb210 := NB1125_1139.out
                            have hnc210 := NB1139_1125.out
                            have hnb211 := NB1125_1143.out
                            have hnc211 := NB1143_1125.out
                            have hnb212 := NB1125_1147.out
                            have hnc212 := NB1147_1125.out
                            have hcz213_0 : w168.cell? ⟨gb1125, 0, none⟩ = some (.int .i64 a0_0) := (blk_cell BK1125.out 0).trans rfl
                            have hcz213_1 : w168.cell? ⟨gb1125, 1, none⟩ = some (.int .i64 a0_1) := (blk_cell BK1125.out 1).trans rfl
                            have hfz213_0 := blk_frozen BK1125.out 0
                            have hfz213_1 := blk_frozen BK1125.out 1
                            go_wp2
                            go_meet
                            case rel => exact ⟨_, ((!(t1148 == a0_0) || (!(t1149 == a0_1)))), (by first | rfl | (simp; done) | (simp [*]; done)), H', ⟨by have := HJ5.out; have := HJ50.out; have := HJ84.out; first | omega | exact Nat.le_refl _⟩, ⟨by (with_reducible repeat (first | refine blk_drewN ?_ _ | refine blk_drew ?_ | refine blk_alloc ?_ _)); refine blk_far ?_ NB1125_1151.out _; (with_reducible repeat (first | refine blk_drewN ?_ _ | refine blk_drew ?_ | refine blk_alloc ?_ _)); refine blk_far ?_ NB1125_1151.out _; (with_reducible repeat (first | refine blk_drewN ?_ _ | refine blk_drew ?_ | refine blk_alloc ?_ _)); exact BK1125.out⟩, ⟨by (with_reducible repeat (first | refine blk_drewN ?_ _ | refine blk_drew ?_ | refine blk_alloc ?_ _)); refine blk_far ?_ NB1126_1151.out _; (with_reducible repeat (first | refine blk_drewN ?_ _ | refine blk_drew ?_ | refine blk_alloc ?_ _)); refine blk_far ?_ NB1126_1151.out _; (with_reducible repeat (first | refine blk_drewN ?_ _ | refine blk_drew ?_ | refine blk_alloc ?_ _)); exact BK1126.out⟩, ⟨by (with_reducible repeat (first | refine blk_drewN ?_ _ | refine blk_drew ?_ | refine blk_alloc ?_ _)); refine blk_far ?_ NB1127_1151.out _; (with_reducible repeat (first | refine blk_drewN ?_ _ | refine blk_drew ?_ | refine blk_alloc ?_ _)); refine blk_far ?_ NB1127_1151.out _; (with_reducible repeat (first | refine blk_drewN ?_ _ | refine blk_drew ?_ | refine blk_alloc ?_ _)); exact BK1127.out⟩, ⟨by (with_reducible repeat (first | refine blk_drewN ?_ _ | refine blk_drew ?_ | refine blk_alloc ?_ _)); refine blk_far ?_ NB1131_1151.out _; (with_reducible repeat (first | refine blk_drewN ?_ _ | refine blk_drew ?_ | refine blk_alloc ?_ _)); refine blk_far ?_ NB1131_1151.out _; (with_reducible repeat (first | refine blk_drewN ?_ _ | refine blk_drew ?_ | refine blk_alloc ?_ _)); exact BK1131.out⟩, ⟨by (with_reducible repeat (first | refine blk_drewN ?_ _ | refine blk_drew ?_ | refine blk_alloc ?_ _)); refine blk_far ?_ NB1135_1151.out _; (with_reducible repeat (first | refine blk_drewN ?_ _ | refine blk_drew ?_ | refine blk_alloc ?_ _)); refine blk_far ?_ NB1135_1151.out _; (with_reducible repeat (first | refine blk_drewN ?_ _ | refine blk_drew ?_ | refine blk_alloc ?_ _)); exact BK1135.out⟩, ⟨by (with_reducible repeat (first | refine blk_drewN ?_ _ | refine blk_drew ?_ | refine blk_alloc ?_ _)); refine blk_far ?_ NB1139_1151.out _; (with_reducible repeat (first | refine blk_drewN ?_ _ | refine blk_drew ?_ | refine blk_alloc ?_ _)); refine blk_far ?_ NB1139_1151.out _; (with_reducible repeat (first | refine blk_drewN ?_ _ | refine blk_drew ?_ | refine blk_alloc ?_ _)); exact BK1139.out⟩, ⟨by (with_reducible repeat (first | refine blk_drewN ?_ _ | refine blk_drew ?_ | refine blk_alloc ?_ _)); refine blk_far ?_ NB1143_1151.out _; (with_reducible repeat (first | refine blk_drewN ?_ _ | refine blk_drew ?_ | refine blk_alloc ?_ _)); refine blk_far ?_ NB1143_1151.out _; (with_reducible repeat (first | refine blk_drewN ?_ _ | refine blk_drew ?_ | refine blk_alloc ?_ _)); exact BK1143.out⟩, ⟨by (with_reducible repeat (first | refine blk_drewN ?_ _ | refine blk_drew ?_ | refine blk_alloc ?_ _)); refine blk_far ?_ NB1147_1151.out _; (with_reducible repeat (first | refine blk_drewN ?_ _ | refine blk_drew ?_ | refine blk_alloc ?_ _)); refine blk_far ?_ NB1147_1151.out _; (with_reducible repeat (first | refine blk_drewN ?_ _ | refine blk_drew ?_ | refine blk_alloc ?_ _)); exact BK1147.out⟩, ⟨by (with_reducible repeat (first | refine blk_drewN ?_ _ | refine blk_drew ?_ | refine blk_alloc ?_ _)); refine blk_put (cs := #[.int .i64 t1148, .int .i64 0]) ?_ 1 _ rfl; (with_reducible repeat (first | refine blk_drewN ?_ _ | refine blk_drew ?_ | refine blk_alloc ?_ _)); refine blk_put (cs := #[.int .i64 0, .int .i64 0]) ?_ 0 _ rfl; (with_reducible repeat (first | refine blk_drewN ?_ _ | refine blk_drew ?_ | refine blk_alloc ?_ _)); exact BK1151.out⟩, ⟨by repeat (first | (with_reducible first | exact HB.out | apply below_alloc | apply pw_below_drewN | apply below_drew1 | refine below_set ?_ GE1125.out | refine below_set ?_ GE1126.out | refine below_set ?_ GE1127.out | refine below_set ?_ GE1131.out | refine below_set ?_ GE1135.out | refine below_set ?_ GE1139.out | refine below_set ?_ GE1143.out | refine below_set ?_ GE1147.out | refine below_set ?_ GE1151.out) | exact HB.out)⟩⟩
                          · rw [if_neg c189] at H
                            have c189b0 : (t1150 == 0) = false := beq_eq_false_iff_ne.mpr c189
                            have c189b1 : (t1150 != 0) = true := bne_iff_ne.mpr c189
                            have H' := Aside0.mk H
                            clear H
                            have hnb214 := NB1126_1125.out
                            have hnc214 := NB1125_1126.out
                            have hnb215 := NB1126_1127.out
                            have hnc215 := NB1127_1126.out
                            have hnb216 := NB1126_1131.out
                            have hnc216 := NB1131_1126.out
                            have hnb217 := NB1126_1135.out
                            have hnc217 := NB1135_1126.out
                            have hnb218 := NB1126_1139.out
                            have hnc218 := NB1139_1126.out
                            have hnb219 := NB1126_1143.out
                            have hnc219 := NB1143_1126.out
                            have hnb220 := NB1126_1147.out
                            have hnc220 := NB1147_1126.out
                            have hnb221 := NB1126_1151.out
                            have hnc221 := NB1151_1126.out
                            have hcz222_0 : w168.cell? ⟨gb1126, 0, none⟩ = some (.int .i64 a1_0) := (blk_cell BK1126.out 0).trans rfl
                            have hcz222_1 : w168.cell? ⟨gb1126, 1, none⟩ = some (.int .i64 a1_1) := (blk_cell BK1126.out 1).trans rfl
                            have hfz222_0 := blk_frozen BK1126.out 0
                            have hfz222_1 := blk_frozen BK1126.out 1
                            go_wp2
                            go_meet
                            case rel => exact ⟨_, (true), (by first | rfl | (simp; done) | (simp [*]; done)), H', ⟨by have := HJ5.out; have := HJ50.out; have := HJ84.out; first | omega | exact Nat.le_refl _⟩, ⟨by (with_reducible repeat (first | refine blk_drewN ?_ _ | refine blk_drew ?_ | refine blk_alloc ?_ _)); refine blk_far ?_ NB1125_1151.out _; (with_reducible repeat (first | refine blk_drewN ?_ _ | refine blk_drew ?_ | refine blk_alloc ?_ _)); refine blk_far ?_ NB1125_1151.out _; (with_reducible repeat (first | refine blk_drewN ?_ _ | refine blk_drew ?_ | refine blk_alloc ?_ _)); exact BK1125.out⟩, ⟨by (with_reducible repeat (first | refine blk_drewN ?_ _ | refine blk_drew ?_ | refine blk_alloc ?_ _)); refine blk_far ?_ NB1126_1151.out _; (with_reducible repeat (first | refine blk_drewN ?_ _ | refine blk_drew ?_ | refine blk_alloc ?_ _)); refine blk_far ?_ NB1126_1151.out _; (with_reducible repeat (first | refine blk_drewN ?_ _ | refine blk_drew ?_ | refine blk_alloc ?_ _)); exact BK1126.out⟩, ⟨by (with_reducible repeat (first | refine blk_drewN ?_ _ | refine blk_drew ?_ | refine blk_alloc ?_ _)); refine blk_far ?_ NB1127_1151.out _; (with_reducible repeat (first | refine blk_drewN ?_ _ | refine blk_drew ?_ | refine blk_alloc ?_ _)); refine blk_far ?_ NB1127_1151.out _; (with_reducible repeat (first | refine blk_drewN ?_ _ | refine blk_drew ?_ | refine blk_alloc ?_ _)); exact BK1127.out⟩, ⟨by (with_reducible repeat (first | refine blk_drewN ?_ _ | refine blk_drew ?_ | refine blk_alloc ?_ _)); refine blk_far ?_ NB1131_1151.out _; (with_reducible repeat (first | refine blk_drewN ?_ _ | refine blk_drew ?_ | refine blk_alloc ?_ _)); refine blk_far ?_ NB1131_1151.out _; (with_reducible repeat (first | refine blk_drewN ?_ _ | refine blk_drew ?_ | refine blk_alloc ?_ _)); exact BK1131.out⟩, ⟨by (with_reducible repeat (first | refine blk_drewN ?_ _ | refine blk_drew ?_ | refine blk_alloc ?_ _)); refine blk_far ?_ NB1135_1151.out _; (with_reducible repeat (first | refine blk_drewN ?_ _ | refine blk_drew ?_ | refine blk_alloc ?_ _)); refine blk_far ?_ NB1135_1151.out _; (with_reducible repeat (first | refine blk_drewN ?_ _ | refine blk_drew ?_ | refine blk_alloc ?_ _)); exact BK1135.out⟩, ⟨by (with_reducible repeat (first | refine blk_drewN ?_ _ | refine blk_drew ?_ | refine blk_alloc ?_ _)); refine blk_far ?_ NB1139_1151.out _; (with_reducible repeat (first | refine blk_drewN ?_ _ | refine blk_drew ?_ | refine blk_alloc ?_ _)); refine blk_far ?_ NB1139_1151.out _; (with_reducible repeat (first | refine blk_drewN ?_ _ | refine blk_drew ?_ | refine blk_alloc ?_ _)); exact BK1139.out⟩, ⟨by (with_reducible repeat (first | refine blk_drewN ?_ _ | refine blk_drew ?_ | refine blk_alloc ?_ _)); refine blk_far ?_ NB1143_1151.out _; (with_reducible repeat (first | refine blk_drewN ?_ _ | refine blk_drew ?_ | refine blk_alloc ?_ _)); refine blk_far ?_ NB1143_1151.out _; (with_reducible repeat (first | refine blk_drewN ?_ _ | refine blk_drew ?_ | refine blk_alloc ?_ _)); exact BK1143.out⟩, ⟨by (with_reducible repeat (first | refine blk_drewN ?_ _ | refine blk_drew ?_ | refine blk_alloc ?_ _)); refine blk_far ?_ NB1147_1151.out _; (with_reducible repeat (first | refine blk_drewN ?_ _ | refine blk_drew ?_ | refine blk_alloc ?_ _)); refine blk_far ?_ NB1147_1151.out _; (with_reducible repeat (first | refine blk_drewN ?_ _ | refine blk_drew ?_ | refine blk_alloc ?_ _)); exact BK1147.out⟩, ⟨by (with_reducible repeat (first | refine blk_drewN ?_ _ | refine blk_drew ?_ | refine blk_alloc ?_ _)); refine blk_put (cs := #[.int .i64 t1148, .int .i64 0]) ?_ 1 _ rfl; (with_reducible repeat (first | refine blk_drewN ?_ _ | refine blk_drew ?_ | refine blk_alloc ?_ _)); refine blk_put (cs := #[.int .i64 0, .int .i64 0]) ?_ 0 _ rfl; (with_reducible repeat (first | refine blk_drewN ?_ _ | refine blk_drew ?_ | refine blk_alloc ?_ _)); exact BK1151.out⟩, ⟨by repeat (first | (with_reducible first | exact HB.out | apply below_alloc | apply pw_below_drewN | apply below_drew1 | refine below_set ?_ GE1125.out | refine below_set ?_ GE1126.out | refine below_set ?_ GE1127.out | refine below_set ?_ GE1131.out | refine below_set ?_ GE1135.out | refine below_set ?_ GE1139.out | refine below_set ?_ GE1143.out | refine below_set ?_ GE1147.out | refine below_set ?_ GE1151.out) | exact HB.out)⟩⟩
                      · rw [if_neg c178] at H
                        have c178b0 : (t1142 == 0) = false := beq_eq_false_iff_ne.mpr c178
                        have c178b1 : (t1142 != 0) = true := bne_iff_ne.mpr c178
                        (first | rw [c178b0] | (simp only [i64_w, i32_w]; rw [c178b0]) | skip)
                        have H' := Aside0.mk H
                        clear H
                        go_wp2
                        go_meet
                        case rel => exact ⟨_, (false), (by first | rfl | (simp; done) | (simp [*]; done)), H', ⟨by have := HJ5.out; have := HJ50.out; have := HJ84.out; first | omega | exact Nat.le_refl _⟩, ⟨by (with_reducible repeat (first | refine blk_drewN ?_ _ | refine blk_drew ?_ | refine blk_alloc ?_ _)); refine blk_far ?_ NB1125_1151.out _; (with_reducible repeat (first | refine blk_drewN ?_ _ | refine blk_drew ?_ | refine blk_alloc ?_ _)); refine blk_far ?_ NB1125_1151.out _; (with_reducible repeat (first | refine blk_drewN ?_ _ | refine blk_drew ?_ | refine blk_alloc ?_ _)); exact BK1125.out⟩, ⟨by (with_reducible repeat (first | refine blk_drewN ?_ _ | refine blk_drew ?_ | refine blk_alloc ?_ _)); refine blk_far ?_ NB1126_1151.out _; (with_reducible repeat (first | refine blk_drewN ?_ _ | refine blk_drew ?_ | refine blk_alloc ?_ _)); refine blk_far ?_ NB1126_1151.out _; (with_reducible repeat (first | refine blk_drewN ?_ _ | refine blk_drew ?_ | refine blk_alloc ?_ _)); exact BK1126.out⟩, ⟨by (with_reducible repeat (first | refine blk_drewN ?_ _ | refine blk_drew ?_ | refine blk_alloc ?_ _)); refine blk_far ?_ NB1127_1151.out _; (with_reducible repeat (first | refine blk_drewN ?_ _ | refine blk_drew ?_ | refine blk_alloc ?_ _)); refine blk_far ?_ NB1127_1151.out _; (with_reducible repeat (first | refine blk_drewN ?_ _ | refine blk_drew ?_ | refine blk_alloc ?_ _)); exact BK1127.out⟩, ⟨by (with_reducible repeat (first | refine blk_drewN ?_ _ | refine blk_drew ?_ | refine blk_alloc ?_ _)); refine blk_far ?_ NB1131_1151.out _; (with_reducible repeat (first | refine blk_drewN ?_ _ | refine blk_drew ?_ | refine blk_alloc ?_ _)); refine blk_far ?_ NB1131_1151.out _; (with_reducible repeat (first | refine blk_drewN ?_ _ | refine blk_drew ?_ | refine blk_alloc ?_ _)); exact BK1131.out⟩, ⟨by (with_reducible repeat (first | refine blk_drewN ?_ _ | refine blk_drew ?_ | refine blk_alloc ?_ _)); refine blk_far ?_ NB1135_1151.out _; (with_reducible repeat (first | refine blk_drewN ?_ _ | refine blk_drew ?_ | refine blk_alloc ?_ _)); refine blk_far ?_ NB1135_1151.out _; (with_reducible repeat (first | refine blk_drewN ?_ _ | refine blk_drew ?_ | refine blk_alloc ?_ _)); exact BK1135.out⟩, ⟨by (with_reducible repeat (first | refine blk_drewN ?_ _ | refine blk_drew ?_ | refine blk_alloc ?_ _)); refine blk_far ?_ NB1139_1151.out _; (with_reducible repeat (first | refine blk_drewN ?_ _ | refine blk_drew ?_ | refine blk_alloc ?_ _)); refine blk_far ?_ NB1139_1151.out _; (with_reducible repeat (first | refine blk_drewN ?_ _ | refine blk_drew ?_ | refine blk_alloc ?_ _)); exact BK1139.out⟩, ⟨by (with_reducible repeat (first | refine blk_drewN ?_ _ | refine blk_drew ?_ | refine blk_alloc ?_ _)); refine blk_far ?_ NB1143_1151.out _; (with_reducible repeat (first | refine blk_drewN ?_ _ | refine blk_drew ?_ | refine blk_alloc ?_ _)); refine blk_far ?_ NB1143_1151.out _; (with_reducible repeat (first | refine blk_drewN ?_ _ | refine blk_drew ?_ | refine blk_alloc ?_ _)); exact BK1143.out⟩, ⟨by (with_reducible repeat (first | refine blk_drewN ?_ _ | refine blk_drew ?_ | refine blk_alloc ?_ _)); refine blk_far ?_ NB1147_1151.out _; (with_reducible repeat (first | refine blk_drewN ?_ _ | refine blk_drew ?_ | refine blk_alloc ?_ _)); refine blk_far ?_ NB1147_1151.out _; (with_reducible repeat (first | refine blk_drewN ?_ _ | refine blk_drew ?_ | refine blk_alloc ?_ _)); exact BK1147.out⟩, ⟨by (with_reducible repeat (first | refine blk_drewN ?_ _ | refine blk_drew ?_ | refine blk_alloc ?_ _)); refine blk_put (cs := #[.int .i64 t1148, .int .i64 0]) ?_ 1 _ rfl; (with_reducible repeat (first | refine blk_drewN ?_ _ | refine blk_drew ?_ | refine blk_alloc ?_ _)); refine blk_put (cs := #[.int .i64 0, .int .i64 0]) ?_ 0 _ rfl; (with_reducible repeat (first | refine blk_drewN ?_ _ | refine blk_drew ?_ | refine blk_alloc ?_ _)); exact BK1151.out⟩, ⟨by repeat (first | (with_reducible first | exact HB.out | apply below_alloc | apply pw_below_drewN | apply below_drew1 | refine below_set ?_ GE1125.out | refine below_set ?_ GE1126.out | refine below_set ?_ GE1127.out | refine below_set ?_ GE1131.out | refine below_set ?_ GE1135.out | refine below_set ?_ GE1139.out | refine below_set ?_ GE1143.out | refine below_set ?_ GE1147.out | refine below_set ?_ GE1151.out) | exact HB.out)⟩⟩
                    case rest =>
                      clear HC151
                      try clear c1
                      try clear c2
                      try clear p2
                      try clear c3
                      try clear c4
                      try clear c5
                      try clear c6
                      try clear c7
                      try clear c8
                      try clear c9
                      try clear c10
                      try clear c11
                      try clear c12
                      try clear c13
                      try clear c14
                      try clear c15
                      try clear c16
                      try clear c17
                      try clear c18
                      try clear c19
                      try clear c20
                      try clear c21
                      try clear c22
                      try clear c25
                      try clear c26
                      try clear c27
                      try clear c28
                      try clear c30
                      try clear c30b0
                      try clear c31
                      try clear c32
                      try clear c33
                      try clear c34
                      try clear c36
                      try clear c37
                      try clear c38
                      try clear c40
                      try clear c41
                      try clear c42
                      try clear c43
                      try clear c45
                      try clear c46
                      try clear c47
                      try clear c49
                      try clear c52
                      try clear c53
                      try clear c54
                      try clear c55
                      try clear c57
                      try clear c58
                      try clear c59
                      try clear c63
                      try clear c64
                      try clear c65
                      try clear c66
                      try clear c67
                      try clear c69
                      try clear c69b0
                      try clear c69b1
                      try clear c70
                      try clear c70b0
                      try clear c70b1
                      try clear c71
                      try clear c72
                      try clear c73
                      try clear c74
                      try clear c75
                      try clear c77
                      try clear c78
                      try clear c79
                      try clear c80
                      try clear c82
                      try clear c86
                      try clear c87
                      try clear c88
                      try clear c89
                      try clear c90
                      try clear c92
                      try clear c93
                      try clear c94
                      try clear c95
                      try clear c99
                      try clear c100
                      try clear c101
                      try clear c102
                      try clear c103
                      try clear c104
                      try clear c110
                      try clear c111
                      try clear c112
                      try clear c113
                      try clear c114
                      try clear c115
                      try clear c116
                      try clear c118
                      try clear c118b0
                      try clear c119
                      try clear c120
                      try clear c121
                      try clear c122
                      try clear c123
                      try clear c124
                      try clear c125
                      try clear c127
                      try clear c128
                      try clear c129
                      try clear c130
                      try clear c131
                      try clear c132
                      try clear c134
                      try clear c135
                      try clear c136
                      try clear c137
                      try clear c138
                      try clear c139
                      try clear c140
                      try clear c142
                      try clear c143
                      try clear c144
                      try clear c145
                      try clear c146
                      try clear c147
                      try clear c149
                      try clear c152
                      try clear c153
                      try clear c154
                      try clear c155
                      try clear c156
                      try clear c157
                      try clear c158
                      try clear c160
                      try clear c161
                      try clear c162
                      try clear c163
                      try clear c164
                      try clear c165
                      try clear c169
                      try clear c170
                      try clear c171
                      try clear c172
                      try clear c173
                      try clear c174
                      try clear c175
                      try clear c176
                      try clear c178
                      try clear c178b0
                      try clear c178b1
                      try clear c179
                      try clear c179b0
                      try clear c179b1
                      try clear c180
                      try clear c181
                      try clear c182
                      try clear c183
                      try clear c184
                      try clear c185
                      try clear c186
                      try clear c187
                      try clear c189
                      try clear c189b0
                      try clear c189b1
                      try clear c190
                      try clear c191
                      try clear c192
                      try clear c193
                      try clear c194
                      try clear c195
                      try clear c196
                      try clear c197
                      try clear c199
                      try clear c200
                      try clear c201
                      try clear c202
                      try clear c203
                      try clear c204
                      try clear c205
                      try clear c207
                      try clear c208
                      try clear c209
                      try clear c210
                      try clear c211
                      try clear c212
                      try clear c214
                      try clear c215
                      try clear c216
                      try clear c217
                      try clear c218
                      try clear c219
                      try clear c220
                      try clear c221
                      try clear hcz105_0
                      try clear hcz105_1
                      try clear hcz106_0
                      try clear hcz106_1
                      try clear hcz107_0
                      try clear hcz107_1
                      try clear hcz117_0
                      try clear hcz117_1
                      try clear hcz126_0
                      try clear hcz126_1
                      try clear hcz12_0
                      try clear hcz12_1
                      try clear hcz133_0
                      try clear hcz133_1
                      try clear hcz141_0
                      try clear hcz141_1
                      try clear hcz148_0
                      try clear hcz148_1
                      try clear hcz14_0
                      try clear hcz14_1
                      try clear hcz159_0
                      try clear hcz159_1
                      try clear hcz166_0
                      try clear hcz166_1
                      try clear hcz177_0
                      try clear hcz177_1
                      try clear hcz188_0
                      try clear hcz188_1
                      try clear hcz198_0
                      try clear hcz198_1
                      try clear hcz206_0
                      try clear hcz206_1
                      try clear hcz20_0
                      try clear hcz20_1
                      try clear hcz213_0
                      try clear hcz213_1
                      try clear hcz21_0
                      try clear hcz21_1
                      try clear hcz222_0
                      try clear hcz222_1
                      try clear hcz22_0
                      try clear hcz22_1
                      try clear hcz29_0
                      try clear hcz29_1
                      try clear hcz35_0
                      try clear hcz35_1
                      try clear hcz39_0
                      try clear hcz39_1
                      try clear hcz44_0
                      try clear hcz44_1
                      try clear hcz48_0
                      try clear hcz48_1
                      try clear hcz56_0
                      try clear hcz56_1
                      try clear hcz60_0
                      try clear hcz60_1
                      try clear hcz68_0
                      try clear hcz68_1
                      try clear hcz76_0
                      try clear hcz76_1
                      try clear hcz81_0
                      try clear hcz81_1
                      try clear hcz91_0
                      try clear hcz91_1
                      try clear hcz96_0
                      try clear hcz96_1
                      try clear hfz105_0
                      try clear hfz105_1
                      try clear hfz106_0
                      try clear hfz106_1
                      try clear hfz107_0
                      try clear hfz107_1
                      try clear hfz117_0
                      try clear hfz117_1
                      try clear hfz126_0
                      try clear hfz126_1
                      try clear hfz12_0
                      try clear hfz12_1
                      try clear hfz133_0
                      try clear hfz133_1
                      try clear hfz141_0
                      try clear hfz141_1
                      try clear hfz148_0
                      try clear hfz148_1
                      try clear hfz14_0
                      try clear hfz14_1
                      try clear hfz159_0
                      try clear hfz159_1
                      try clear hfz166_0
                      try clear hfz166_1
                      try clear hfz177_0
                      try clear hfz177_1
                      try clear hfz188_0
                      try clear hfz188_1
                      try clear hfz198_0
                      try clear hfz198_1
                      try clear hfz206_0
                      try clear hfz206_1
                      try clear hfz20_0
                      try clear hfz20_1
                      try clear hfz213_0
                      try clear hfz213_1
                      try clear hfz21_0
                      try clear hfz21_1
                      try clear hfz222_0
                      try clear hfz222_1
                      try clear hfz22_0
                      try clear hfz22_1
                      try clear hfz29_0
                      try clear hfz29_1
                      try clear hfz35_0
                      try clear hfz35_1
                      try clear hfz39_0
                      try clear hfz39_1
                      try clear hfz44_0
                      try clear hfz44_1
                      try clear hfz48_0
                      try clear hfz48_1
                      try clear hfz56_0
                      try clear hfz56_1
                      try clear hfz60_0
                      try clear hfz60_1
                      try clear hfz68_0
                      try clear hfz68_1
                      try clear hfz76_0
                      try clear hfz76_1
                      try clear hfz81_0
                      try clear hfz81_1
                      try clear hfz91_0
                      try clear hfz91_1
                      try clear hfz96_0
                      try clear hfz96_1
                      try clear p2
                      obtain ⟨kq, x102_150, rfl, HA, HJ150, BK1125, BK1126, BK1127, BK1131, BK1135, BK1139, BK1143, BK1147, BK1151, HB⟩ := hcut
                      cases kq with
                      | zero => exact absurd HA.out (by simp [merinolaw01_NumField.j3])
                      | succ kj150 =>
                        have H := HA.out
                        clear HA
                        simp only [merinolaw01_NumField.j3] at H
                        by_cases c223 : x102_150 = true
                        · subst c223
                          have H1 : (none) = some r := by rw [if_pos rfl] at H; exact H
                          clear H
                          have H := H1
                          clear H1
                          exact absurd H (by simp)
                        · replace c223 := Bool.eq_false_iff.mpr c223
                          subst c223
                          have H1 : ((num_Add.f kj150 t1128 t1129 a2_0 a2_1).bind fun bt1152 => ((num_Add.f kj150 a1_0 a1_1 a2_0 a2_1).bind fun bt1156 => ((num_Add.f kj150 a0_0 a0_1 bt1156.1 bt1156.2.1).bind fun bt1160 => (if bt1152.2.2 = 0 then (if bt1156.2.2 = 0 then (if bt1160.2.2 = 0 then (merinolaw01_NumField.j4 kj150 (!(bt1152.1 == bt1160.1) || (!(bt1152.2.1 == bt1160.2.1))) a0_0 a0_1 a2_0 a2_1 t1140 t1141 bt1156.1 bt1156.2.1) else (merinolaw01_NumField.j4 kj150 false a0_0 a0_1 a2_0 a2_1 t1140 t1141 bt1156.1 bt1156.2.1)) else (merinolaw01_NumField.j4 kj150 false a0_0 a0_1 a2_0 a2_1 t1140 t1141 bt1156.1 bt1156.2.1)) else (merinolaw01_NumField.j4 kj150 false a0_0 a0_1 a2_0 a2_1 t1140 t1141 bt1156.1 bt1156.2.1))))) = some r := by rw [if_neg (show ¬ (false = true) by decide)] at H; exact H
                          clear H
                          have H := H1
                          clear H1
                          replace H := Option.bind_eq_some_iff.mp H
                          obtain ⟨⟨t1152, t1153, t1154⟩, A2240, H⟩ := H
                          replace H : ((num_Add.f kj150 a1_0 a1_1 a2_0 a2_1).bind fun bt1156 => ((num_Add.f kj150 a0_0 a0_1 bt1156.1 bt1156.2.1).bind fun bt1160 => (if t1154 = 0 then (if bt1156.2.2 = 0 then (if bt1160.2.2 = 0 then (merinolaw01_NumField.j4 kj150 (!(t1152 == bt1160.1) || (!(t1153 == bt1160.2.1))) a0_0 a0_1 a2_0 a2_1 t1140 t1141 bt1156.1 bt1156.2.1) else (merinolaw01_NumField.j4 kj150 false a0_0 a0_1 a2_0 a2_1 t1140 t1141 bt1156.1 bt1156.2.1)) else (merinolaw01_NumField.j4 kj150 false a0_0 a0_1 a2_0 a2_1 t1140 t1141 bt1156.1 bt1156.2.1)) else (merinolaw01_NumField.j4 kj150 false a0_0 a0_1 a2_0 a2_1 t1140 t1141 bt1156.1 bt1156.2.1)))) = some r := H
                          have A224 := Aside0.mk A2240
                          clear A2240
                          replace H := Option.bind_eq_some_iff.mp H
                          obtain ⟨⟨t1156, t1157, t1158⟩, A2250, H⟩ := H
                          replace H : ((num_Add.f kj150 a0_0 a0_1 t1156 t1157).bind fun bt1160 => (if t1154 = 0 then (if t1158 = 0 then (if bt1160.2.2 = 0 then (merinolaw01_NumField.j4 kj150 (!(t1152 == bt1160.1) || (!(t1153 == bt1160.2.1))) a0_0 a0_1 a2_0 a2_1 t1140 t1141 t1156 t1157) else (merinolaw01_NumField.j4 kj150 false a0_0 a0_1 a2_0 a2_1 t1140 t1141 t1156 t1157)) else (merinolaw01_NumField.j4 kj150 false a0_0 a0_1 a2_0 a2_1 t1140 t1141 t1156 t1157)) else (merinolaw01_NumField.j4 kj150 false a0_0 a0_1 a2_0 a2_1 t1140 t1141 t1156 t1157))) = some r := H
                          have A225 := Aside0.mk A2250
                          clear A2250
                          replace H := Option.bind_eq_some_iff.mp H
                          obtain ⟨⟨t1160, t1161, t1162⟩, A2260, H⟩ := H
                          replace H : (if t1154 = 0 then (if t1158 = 0 then (if t1162 = 0 then (merinolaw01_NumField.j4 kj150 (!(t1152 == t1160) || (!(t1153 == t1161))) a0_0 a0_1 a2_0 a2_1 t1140 t1141 t1156 t1157) else (merinolaw01_NumField.j4 kj150 false a0_0 a0_1 a2_0 a2_1 t1140 t1141 t1156 t1157)) else (merinolaw01_NumField.j4 kj150 false a0_0 a0_1 a2_0 a2_1 t1140 t1141 t1156 t1157)) else (merinolaw01_NumField.j4 kj150 false a0_0 a0_1 a2_0 a2_1 t1140 t1141 t1156 t1157)) = some r := H
                          have A226 := Aside0.mk A2260
                          clear A2260
                          have HC227 := Aside0.mk H
                          clear H
                          have hnb228 := NB1131_1125.out
                          have hnc228 := NB1125_1131.out
                          have hnb229 := NB1131_1126.out
                          have hnc229 := NB1126_1131.out
                          have hnb230 := NB1131_1127.out
                          have hnc230 := NB1127_1131.out
                          have hnb231 := NB1131_1135.out
                          have hnc231 := NB1135_1131.out
                          have hnb232 := NB1131_1139.out
                          have hnc232 := NB1139_1131.out
                          have hnb233 := NB1131_1143.out
                          have hnc233 := NB1143_1131.out
                          have hnb234 := NB1131_1147.out
                          have hnc234 := NB1147_1131.out
                          have hnb235 := NB1131_1151.out
                          have hnc235 := NB1151_1131.out
                          have hcz236_0 : wc.cell? ⟨gb1131, 0, none⟩ = some (.int .i64 t1128) := (blk_cell BK1131.out 0).trans rfl
                          have hcz236_1 : wc.cell? ⟨gb1131, 1, none⟩ = some (.int .i64 t1129) := (blk_cell BK1131.out 1).trans rfl
                          have hfz236_0 := blk_frozen BK1131.out 0
                          have hfz236_1 := blk_frozen BK1131.out 1
                          have hnb237 := NB1127_1125.out
                          have hnc237 := NB1125_1127.out
                          have hnb238 := NB1127_1126.out
                          have hnc238 := NB1126_1127.out
                          have hnb239 := NB1127_1135.out
                          have hnc239 := NB1135_1127.out
                          have hnb240 := NB1127_1139.out
                          have hnc240 := NB1139_1127.out
                          have hnb241 := NB1127_1143.out
                          have hnc241 := NB1143_1127.out
                          have hnb242 := NB1127_1147.out
                          have hnc242 := NB1147_1127.out
                          have hnb243 := NB1127_1151.out
                          have hnc243 := NB1151_1127.out
                          have hcz244_0 : wc.cell? ⟨gb1127, 0, none⟩ = some (.int .i64 a2_0) := (blk_cell BK1127.out 0).trans rfl
                          have hcz244_1 : wc.cell? ⟨gb1127, 1, none⟩ = some (.int .i64 a2_1) := (blk_cell BK1127.out 1).trans rfl
                          have hfz244_0 := blk_frozen BK1127.out 0
                          have hfz244_1 := blk_frozen BK1127.out 1
                          go_upto_region 18 with (first | ((with_reducible refine gate_callee (f := 52) rfl ?_); refine goesL_ (some 106) rfl rfl Tryd.func52 (by kernel_rfl) rfl #[.agg #[.int .i64 t1128, .int .i64 t1129], .agg #[.int .i64 a2_0, .int .i64 a2_1]] rfl qe_ ?_; (with_reducible refine (num_Add.calls kj150 t1128 t1129 a2_0 a2_1 t1152 t1153 t1154 _ A224.out).mono ?_); rintro e w245 ⟨rfl, hb⟩; refine ⟨_, rfl, ?_⟩; have n0_ := Aside0.mk (qk_ BK1125.out hb); have n1_ := Aside0.mk (qk_ BK1126.out hb); have n2_ := Aside0.mk (qk_ BK1127.out hb); have n3_ := Aside0.mk (qk_ BK1131.out hb); have n4_ := Aside0.mk (qk_ BK1135.out hb); have n5_ := Aside0.mk (qk_ BK1139.out hb); have n6_ := Aside0.mk (qk_ BK1143.out hb); have n7_ := Aside0.mk (qk_ BK1147.out hb); have n8_ := Aside0.mk (qk_ BK1151.out hb); have n9_ := Aside0.mk (below_step (by repeat (first | (with_reducible first | exact HB.out | apply below_alloc | apply pw_below_drewN | apply below_drew1 | refine below_set ?_ GE1125.out | refine below_set ?_ GE1126.out | refine below_set ?_ GE1127.out | refine below_set ?_ GE1131.out | refine below_set ?_ GE1135.out | refine below_set ?_ GE1139.out | refine below_set ?_ GE1143.out | refine below_set ?_ GE1147.out | refine below_set ?_ GE1151.out) | exact HB.out)) hb); clear BK1125; clear BK1126; clear BK1127; clear BK1131; clear BK1135; clear BK1139; clear BK1143; clear BK1147; clear BK1151; clear HB; have BK1125 := n0_; have BK1126 := n1_; have BK1127 := n2_; have BK1131 := n3_; have BK1135 := n4_; have BK1139 := n5_; have BK1143 := n6_; have BK1147 := n7_; have BK1151 := n8_; have HB := n9_; clear n0_ n1_ n2_ n3_ n4_ n5_ n6_ n7_ n8_ n9_; (try clear hb); (try clear hb2); (try clear hk); (try clear hi)) | ((with_reducible refine gate_dst (N := 18) rfl ?_); refine qx_ 18 #[.int .i64 0, .int .i64 0] 23 ?hr ?_; (case hr => first | (go_simp; done) | (go_simp; rfl)); intro gb1155 hg w246 hbox hb; have n0_ := Aside0.mk (qk_ BK1125.out hb); have n1_ := Aside0.mk (qk_ BK1126.out hb); have n2_ := Aside0.mk (qk_ BK1127.out hb); have n3_ := Aside0.mk (qk_ BK1131.out hb); have n4_ := Aside0.mk (qk_ BK1135.out hb); have n5_ := Aside0.mk (qk_ BK1139.out hb); have n6_ := Aside0.mk (qk_ BK1143.out hb); have n7_ := Aside0.mk (qk_ BK1147.out hb); have n8_ := Aside0.mk (qk_ BK1151.out hb); have n9_ := Aside0.mk (below_step (by repeat (first | (with_reducible first | exact HB.out | apply below_alloc | apply pw_below_drewN | apply below_drew1 | refine below_set ?_ GE1125.out | refine below_set ?_ GE1126.out | refine below_set ?_ GE1127.out | refine below_set ?_ GE1131.out | refine below_set ?_ GE1135.out | refine below_set ?_ GE1139.out | refine below_set ?_ GE1143.out | refine below_set ?_ GE1147.out | refine below_set ?_ GE1151.out) | exact HB.out)) hb); have n10_ := Aside0.mk (hbox); have n11_ := Aside0.mk ((by rw [hg]; exact (below_size (by repeat (first | (with_reducible first | exact HB.out | apply below_alloc | apply pw_below_drewN | apply below_drew1 | refine below_set ?_ GE1125.out | refine below_set ?_ GE1126.out | refine below_set ?_ GE1127.out | refine below_set ?_ GE1131.out | refine below_set ?_ GE1135.out | refine below_set ?_ GE1139.out | refine below_set ?_ GE1143.out | refine below_set ?_ GE1147.out | refine below_set ?_ GE1151.out) | exact HB.out))) : w.heap.size ≤ gb1155)); have n12_ := Aside0.mk ((by rw [hg]; exact (below_size (by repeat (first | (with_reducible first | exact HB.out | apply below_alloc | apply pw_below_drewN | apply below_drew1 | refine below_set ?_ GE1125.out | refine below_set ?_ GE1126.out | refine below_set ?_ GE1127.out | refine below_set ?_ GE1131.out | refine below_set ?_ GE1135.out | refine below_set ?_ GE1139.out | refine below_set ?_ GE1143.out | refine below_set ?_ GE1147.out | refine below_set ?_ GE1151.out) | exact HB.out))) : w.heap.size ≤ gb1155)); have n13_ := Aside0.mk (qn_ hg BK1125.out); have n14_ := Aside0.mk (Ne.symm (qn_ hg BK1125.out)); have n15_ := Aside0.mk (qn_ hg BK1126.out); have n16_ := Aside0.mk (Ne.symm (qn_ hg BK1126.out)); have n17_ := Aside0.mk (qn_ hg BK1127.out); have n18_ := Aside0.mk (Ne.symm (qn_ hg BK1127.out)); have n19_ := Aside0.mk (qn_ hg BK1131.out); have n20_ := Aside0.mk (Ne.symm (qn_ hg BK1131.out)); have n21_ := Aside0.mk (qn_ hg BK1135.out); have n22_ := Aside0.mk (Ne.symm (qn_ hg BK1135.out)); have n23_ := Aside0.mk (qn_ hg BK1139.out); have n24_ := Aside0.mk (Ne.symm (qn_ hg BK1139.out)); have n25_ := Aside0.mk (qn_ hg BK1143.out); have n26_ := Aside0.mk (Ne.symm (qn_ hg BK1143.out)); have n27_ := Aside0.mk (qn_ hg BK1147.out); have n28_ := Aside0.mk (Ne.symm (qn_ hg BK1147.out)); have n29_ := Aside0.mk (qn_ hg BK1151.out); have n30_ := Aside0.mk (Ne.symm (qn_ hg BK1151.out)); clear BK1125; clear BK1126; clear BK1127; clear BK1131; clear BK1135; clear BK1139; clear BK1143; clear BK1147; clear BK1151; clear HB; have BK1125 := n0_; have BK1126 := n1_; have BK1127 := n2_; have BK1131 := n3_; have BK1135 := n4_; have BK1139 := n5_; have BK1143 := n6_; have BK1147 := n7_; have BK1151 := n8_; have HB := n9_; have BK1155 := n10_; have GW1155 := n11_; have GE1155 := n12_; have NB1125_1155 := n13_; have NB1155_1125 := n14_; have NB1126_1155 := n15_; have NB1155_1126 := n16_; have NB1127_1155 := n17_; have NB1155_1127 := n18_; have NB1131_1155 := n19_; have NB1155_1131 := n20_; have NB1135_1155 := n21_; have NB1155_1135 := n22_; have NB1139_1155 := n23_; have NB1155_1139 := n24_; have NB1143_1155 := n25_; have NB1155_1143 := n26_; have NB1147_1155 := n27_; have NB1155_1147 := n28_; have NB1151_1155 := n29_; have NB1155_1151 := n30_; clear n0_ n1_ n2_ n3_ n4_ n5_ n6_ n7_ n8_ n9_ n10_ n11_ n12_ n13_ n14_ n15_ n16_ n17_ n18_ n19_ n20_ n21_ n22_ n23_ n24_ n25_ n26_ n27_ n28_ n29_ n30_; clear hb hbox hg; have hnb247 := NB1155_1125.out; have hnc247 := NB1125_1155.out; have hnb248 := NB1155_1126.out; have hnc248 := NB1126_1155.out; have hnb249 := NB1155_1127.out; have hnc249 := NB1127_1155.out; have hnb250 := NB1155_1131.out; have hnc250 := NB1131_1155.out; have hnb251 := NB1155_1135.out; have hnc251 := NB1135_1155.out; have hnb252 := NB1155_1139.out; have hnc252 := NB1139_1155.out; have hnb253 := NB1155_1143.out; have hnc253 := NB1143_1155.out; have hnb254 := NB1155_1147.out; have hnc254 := NB1147_1155.out; have hnb255 := NB1155_1151.out; have hnc255 := NB1151_1155.out; have hcz256_0 : w246.cell? ⟨gb1155, 0, none⟩ = some (.int .i64 0) := (blk_cell BK1155.out 0).trans rfl; have hcz256_1 : w246.cell? ⟨gb1155, 1, none⟩ = some (.int .i64 0) := (blk_cell BK1155.out 1).trans rfl; have hfz256_0 := blk_frozen BK1155.out 0; have hfz256_1 := blk_frozen BK1155.out 1; have hnb257 := NB1126_1125.out; have hnc257 := NB1125_1126.out; have hnb258 := NB1126_1135.out; have hnc258 := NB1135_1126.out; have hnb259 := NB1126_1139.out; have hnc259 := NB1139_1126.out; have hnb260 := NB1126_1143.out; have hnc260 := NB1143_1126.out; have hnb261 := NB1126_1147.out; have hnc261 := NB1147_1126.out; have hnb262 := NB1126_1151.out; have hnc262 := NB1151_1126.out; have hcz263_0 : w246.cell? ⟨gb1126, 0, none⟩ = some (.int .i64 a1_0) := (blk_cell BK1126.out 0).trans rfl; have hcz263_1 : w246.cell? ⟨gb1126, 1, none⟩ = some (.int .i64 a1_1) := (blk_cell BK1126.out 1).trans rfl; have hfz263_0 := blk_frozen BK1126.out 0; have hfz263_1 := blk_frozen BK1126.out 1; have hcz264_0 : w246.cell? ⟨gb1127, 0, none⟩ = some (.int .i64 a2_0) := (blk_cell BK1127.out 0).trans rfl; have hcz264_1 : w246.cell? ⟨gb1127, 1, none⟩ = some (.int .i64 a2_1) := (blk_cell BK1127.out 1).trans rfl; have hfz264_0 := blk_frozen BK1127.out 0; have hfz264_1 := blk_frozen BK1127.out 1) | ((with_reducible refine gate_callee (f := 52) rfl ?_); refine goesL_ (some 112) rfl rfl Tryd.func52 (by kernel_rfl) rfl #[.agg #[.int .i64 a1_0, .int .i64 a1_1], .agg #[.int .i64 a2_0, .int .i64 a2_1]] rfl qe_ ?_; (with_reducible refine (num_Add.calls kj150 a1_0 a1_1 a2_0 a2_1 t1156 t1157 t1158 _ A225.out).mono ?_); rintro e w265 ⟨rfl, hb⟩; refine ⟨_, rfl, ?_⟩; have n0_ := Aside0.mk (blk_below (g := gb1125) (o := .cells #[.int .i64 a0_0, .int .i64 a0_1] 23 (0, 0)) (by (with_reducible repeat (first | refine blk_drewN ?_ _ | refine blk_drew ?_ | refine blk_alloc ?_ _)); refine blk_far ?_ NB1125_1155.out _; (with_reducible repeat (first | refine blk_drewN ?_ _ | refine blk_drew ?_ | refine blk_alloc ?_ _)); refine blk_far ?_ NB1125_1155.out _; (with_reducible repeat (first | refine blk_drewN ?_ _ | refine blk_drew ?_ | refine blk_alloc ?_ _)); exact BK1125.out) hb); have n1_ := Aside0.mk (blk_below (g := gb1126) (o := .cells #[.int .i64 a1_0, .int .i64 a1_1] 23 (0, 0)) (by (with_reducible repeat (first | refine blk_drewN ?_ _ | refine blk_drew ?_ | refine blk_alloc ?_ _)); refine blk_far ?_ NB1126_1155.out _; (with_reducible repeat (first | refine blk_drewN ?_ _ | refine blk_drew ?_ | refine blk_alloc ?_ _)); refine blk_far ?_ NB1126_1155.out _; (with_reducible repeat (first | refine blk_drewN ?_ _ | refine blk_drew ?_ | refine blk_alloc ?_ _)); exact BK1126.out) hb); have n2_ := Aside0.mk (blk_below (g := gb1127) (o := .cells #[.int .i64 a2_0, .int .i64 a2_1] 23 (0, 0)) (by (with_reducible repeat (first | refine blk_drewN ?_ _ | refine blk_drew ?_ | refine blk_alloc ?_ _)); refine blk_far ?_ NB1127_1155.out _; (with_reducible repeat (first | refine blk_drewN ?_ _ | refine blk_drew ?_ | refine blk_alloc ?_ _)); refine blk_far ?_ NB1127_1155.out _; (with_reducible repeat (first | refine blk_drewN ?_ _ | refine blk_drew ?_ | refine blk_alloc ?_ _)); exact BK1127.out) hb); have n3_ := Aside0.mk (blk_below (g := gb1131) (o := .cells #[.int .i64 t1128, .int .i64 t1129] 23 (0, 0)) (by (with_reducible repeat (first | refine blk_drewN ?_ _ | refine blk_drew ?_ | refine blk_alloc ?_ _)); refine blk_far ?_ NB1131_1155.out _; (with_reducible repeat (first | refine blk_drewN ?_ _ | refine blk_drew ?_ | refine blk_alloc ?_ _)); refine blk_far ?_ NB1131_1155.out _; (with_reducible repeat (first | refine blk_drewN ?_ _ | refine blk_drew ?_ | refine blk_alloc ?_ _)); exact BK1131.out) hb); have n4_ := Aside0.mk (blk_below (g := gb1135) (o := .cells #[.int .i64 t1132, .int .i64 t1133] 23 (0, 0)) (by (with_reducible repeat (first | refine blk_drewN ?_ _ | refine blk_drew ?_ | refine blk_alloc ?_ _)); refine blk_far ?_ NB1135_1155.out _; (with_reducible repeat (first | refine blk_drewN ?_ _ | refine blk_drew ?_ | refine blk_alloc ?_ _)); refine blk_far ?_ NB1135_1155.out _; (with_reducible repeat (first | refine blk_drewN ?_ _ | refine blk_drew ?_ | refine blk_alloc ?_ _)); exact BK1135.out) hb); have n5_ := Aside0.mk (blk_below (g := gb1139) (o := .cells #[.int .i64 t1136, .int .i64 t1137] 23 (0, 0)) (by (with_reducible repeat (first | refine blk_drewN ?_ _ | refine blk_drew ?_ | refine blk_alloc ?_ _)); refine blk_far ?_ NB1139_1155.out _; (with_reducible repeat (first | refine blk_drewN ?_ _ | refine blk_drew ?_ | refine blk_alloc ?_ _)); refine blk_far ?_ NB1139_1155.out _; (with_reducible repeat (first | refine blk_drewN ?_ _ | refine blk_drew ?_ | refine blk_alloc ?_ _)); exact BK1139.out) hb); have n6_ := Aside0.mk (blk_below (g := gb1143) (o := .cells #[.int .i64 t1140, .int .i64 t1141] 23 (0, 0)) (by (with_reducible repeat (first | refine blk_drewN ?_ _ | refine blk_drew ?_ | refine blk_alloc ?_ _)); refine blk_far ?_ NB1143_1155.out _; (with_reducible repeat (first | refine blk_drewN ?_ _ | refine blk_drew ?_ | refine blk_alloc ?_ _)); refine blk_far ?_ NB1143_1155.out _; (with_reducible repeat (first | refine blk_drewN ?_ _ | refine blk_drew ?_ | refine blk_alloc ?_ _)); exact BK1143.out) hb); have n7_ := Aside0.mk (blk_below (g := gb1147) (o := .cells #[.int .i64 t1144, .int .i64 t1145] 23 (0, 0)) (by (with_reducible repeat (first | refine blk_drewN ?_ _ | refine blk_drew ?_ | refine blk_alloc ?_ _)); refine blk_far ?_ NB1147_1155.out _; (with_reducible repeat (first | refine blk_drewN ?_ _ | refine blk_drew ?_ | refine blk_alloc ?_ _)); refine blk_far ?_ NB1147_1155.out _; (with_reducible repeat (first | refine blk_drewN ?_ _ | refine blk_drew ?_ | refine blk_alloc ?_ _)); exact BK1147.out) hb); have n8_ := Aside0.mk (blk_below (g := gb1151) (o := .cells #[.int .i64 t1148, .int .i64 t1149] 23 (0, 0)) (by (with_reducible repeat (first | refine blk_drewN ?_ _ | refine blk_drew ?_ | refine blk_alloc ?_ _)); refine blk_far ?_ NB1151_1155.out _; (with_reducible repeat (first | refine blk_drewN ?_ _ | refine blk_drew ?_ | refine blk_alloc ?_ _)); refine blk_far ?_ NB1151_1155.out _; (with_reducible repeat (first | refine blk_drewN ?_ _ | refine blk_drew ?_ | refine blk_alloc ?_ _)); exact BK1151.out) hb); have n9_ := Aside0.mk (blk_below (g := gb1155) (o := .cells #[.int .i64 t1152, .int .i64 t1153] 23 (0, 0)) (by (with_reducible repeat (first | refine blk_drewN ?_ _ | refine blk_drew ?_ | refine blk_alloc ?_ _)); refine blk_put (cs := #[.int .i64 t1152, .int .i64 0]) ?_ 1 _ rfl; (with_reducible repeat (first | refine blk_drewN ?_ _ | refine blk_drew ?_ | refine blk_alloc ?_ _)); refine blk_put (cs := #[.int .i64 0, .int .i64 0]) ?_ 0 _ rfl; (with_reducible repeat (first | refine blk_drewN ?_ _ | refine blk_drew ?_ | refine blk_alloc ?_ _)); exact BK1155.out) hb); have n10_ := Aside0.mk (below_step (by repeat (first | (with_reducible first | exact HB.out | apply below_alloc | apply pw_below_drewN | apply below_drew1 | refine below_set ?_ GE1125.out | refine below_set ?_ GE1126.out | refine below_set ?_ GE1127.out | refine below_set ?_ GE1131.out | refine below_set ?_ GE1135.out | refine below_set ?_ GE1139.out | refine below_set ?_ GE1143.out | refine below_set ?_ GE1147.out | refine below_set ?_ GE1151.out | refine below_set ?_ GE1155.out) | exact HB.out)) hb); clear BK1125; clear BK1126; clear BK1127; clear BK1131; clear BK1135; clear BK1139; clear BK1143; clear BK1147; clear BK1151; clear BK1155; clear HB; have BK1125 := n0_; have BK1126 := n1_; have BK1127 := n2_; have BK1131 := n3_; have BK1135 := n4_; have BK1139 := n5_; have BK1143 := n6_; have BK1147 := n7_; have BK1151 := n8_; have BK1155 := n9_; have HB := n10_; clear n0_ n1_ n2_ n3_ n4_ n5_ n6_ n7_ n8_ n9_ n10_; (try clear hb); (try clear hb2); (try clear hk); (try clear hi)) | ((with_reducible refine gate_dst (N := 19) rfl ?_); refine qx_ 19 #[.int .i64 0, .int .i64 0] 23 ?hr ?_; (case hr => first | (go_simp; done) | (go_simp; rfl)); intro gb1159 hg w266 hbox hb; have n0_ := Aside0.mk (qk_ BK1125.out hb); have n1_ := Aside0.mk (qk_ BK1126.out hb); have n2_ := Aside0.mk (qk_ BK1127.out hb); have n3_ := Aside0.mk (qk_ BK1131.out hb); have n4_ := Aside0.mk (qk_ BK1135.out hb); have n5_ := Aside0.mk (qk_ BK1139.out hb); have n6_ := Aside0.mk (qk_ BK1143.out hb); have n7_ := Aside0.mk (qk_ BK1147.out hb); have n8_ := Aside0.mk (qk_ BK1151.out hb); have n9_ := Aside0.mk (qk_ BK1155.out hb); have n10_ := Aside0.mk (below_step (by repeat (first | (with_reducible first | exact HB.out | apply below_alloc | apply pw_below_drewN | apply below_drew1 | refine below_set ?_ GE1125.out | refine below_set ?_ GE1126.out | refine below_set ?_ GE1127.out | refine below_set ?_ GE1131.out | refine below_set ?_ GE1135.out | refine below_set ?_ GE1139.out | refine below_set ?_ GE1143.out | refine below_set ?_ GE1147.out | refine below_set ?_ GE1151.out | refine below_set ?_ GE1155.out) | exact HB.out)) hb); have n11_ := Aside0.mk (hbox); have n12_ := Aside0.mk ((by rw [hg]; exact (below_size (by repeat (first | (with_reducible first | exact HB.out | apply below_alloc | apply pw_below_drewN | apply below_drew1 | refine below_set ?_ GE1125.out | refine below_set ?_ GE1126.out | refine below_set ?_ GE1127.out | refine below_set ?_ GE1131.out | refine below_set ?_ GE1135.out | refine below_set ?_ GE1139.out | refine below_set ?_ GE1143.out | refine below_set ?_ GE1147.out | refine below_set ?_ GE1151.out | refine below_set ?_ GE1155.out) | exact HB.out))) : w.heap.size ≤ gb1159)); have n13_ := Aside0.mk ((by rw [hg]; exact (below_size (by repeat (first | (with_reducible first | exact HB.out | apply below_alloc | apply pw_below_drewN | apply below_drew1 | refine below_set ?_ GE1125.out | refine below_set ?_ GE1126.out | refine below_set ?_ GE1127.out | refine below_set ?_ GE1131.out | refine below_set ?_ GE1135.out | refine below_set ?_ GE1139.out | refine below_set ?_ GE1143.out | refine below_set ?_ GE1147.out | refine below_set ?_ GE1151.out | refine below_set ?_ GE1155.out) | exact HB.out))) : w.heap.size ≤ gb1159)); have n14_ := Aside0.mk (qn_ hg BK1125.out); have n15_ := Aside0.mk (Ne.symm (qn_ hg BK1125.out)); have n16_ := Aside0.mk (qn_ hg BK1126.out); have n17_ := Aside0.mk (Ne.symm (qn_ hg BK1126.out)); have n18_ := Aside0.mk (qn_ hg BK1127.out); have n19_ := Aside0.mk (Ne.symm (qn_ hg BK1127.out)); have n20_ := Aside0.mk (qn_ hg BK1131.out); have n21_ := Aside0.mk (Ne.symm (qn_ hg BK1131.out)); have n22_ := Aside0.mk (qn_ hg BK1135.out); have n23_ := Aside0.mk (Ne.symm (qn_ hg BK1135.out)); have n24_ := Aside0.mk (qn_ hg BK1139.out); have n25_ := Aside0.mk (Ne.symm (qn_ hg BK1139.out)); have n26_ := Aside0.mk (qn_ hg BK1143.out); have n27_ := Aside0.mk (Ne.symm (qn_ hg BK1143.out)); have n28_ := Aside0.mk (qn_ hg BK1147.out); have n29_ := Aside0.mk (Ne.symm (qn_ hg BK1147.out)); have n30_ := Aside0.mk (qn_ hg BK1151.out); have n31_ := Aside0.mk (Ne.symm (qn_ hg BK1151.out)); have n32_ := Aside0.mk (qn_ hg BK1155.out); have n33_ := Aside0.mk (Ne.symm (qn_ hg BK1155.out)); clear BK1125; clear BK1126; clear BK1127; clear BK1131; clear BK1135; clear BK1139; clear BK1143; clear BK1147; clear BK1151; clear BK1155; clear HB; have BK1125 := n0_; have BK1126 := n1_; have BK1127 := n2_; have BK1131 := n3_; have BK1135 := n4_; have BK1139 := n5_; have BK1143 := n6_; have BK1147 := n7_; have BK1151 := n8_; have BK1155 := n9_; have HB := n10_; have BK1159 := n11_; have GW1159 := n12_; have GE1159 := n13_; have NB1125_1159 := n14_; have NB1159_1125 := n15_; have NB1126_1159 := n16_; have NB1159_1126 := n17_; have NB1127_1159 := n18_; have NB1159_1127 := n19_; have NB1131_1159 := n20_; have NB1159_1131 := n21_; have NB1135_1159 := n22_; have NB1159_1135 := n23_; have NB1139_1159 := n24_; have NB1159_1139 := n25_; have NB1143_1159 := n26_; have NB1159_1143 := n27_; have NB1147_1159 := n28_; have NB1159_1147 := n29_; have NB1151_1159 := n30_; have NB1159_1151 := n31_; have NB1155_1159 := n32_; have NB1159_1155 := n33_; clear n0_ n1_ n2_ n3_ n4_ n5_ n6_ n7_ n8_ n9_ n10_ n11_ n12_ n13_ n14_ n15_ n16_ n17_ n18_ n19_ n20_ n21_ n22_ n23_ n24_ n25_ n26_ n27_ n28_ n29_ n30_ n31_ n32_ n33_; clear hb hbox hg; have hnb267 := NB1159_1125.out; have hnc267 := NB1125_1159.out; have hnb268 := NB1159_1126.out; have hnc268 := NB1126_1159.out; have hnb269 := NB1159_1127.out; have hnc269 := NB1127_1159.out; have hnb270 := NB1159_1131.out; have hnc270 := NB1131_1159.out; have hnb271 := NB1159_1135.out; have hnc271 := NB1135_1159.out; have hnb272 := NB1159_1139.out; have hnc272 := NB1139_1159.out; have hnb273 := NB1159_1143.out; have hnc273 := NB1143_1159.out; have hnb274 := NB1159_1147.out; have hnc274 := NB1147_1159.out; have hnb275 := NB1159_1151.out; have hnc275 := NB1151_1159.out; have hnb276 := NB1159_1155.out; have hnc276 := NB1155_1159.out; have hcz277_0 : w266.cell? ⟨gb1159, 0, none⟩ = some (.int .i64 0) := (blk_cell BK1159.out 0).trans rfl; have hcz277_1 : w266.cell? ⟨gb1159, 1, none⟩ = some (.int .i64 0) := (blk_cell BK1159.out 1).trans rfl; have hfz277_0 := blk_frozen BK1159.out 0; have hfz277_1 := blk_frozen BK1159.out 1; have hnb278 := NB1125_1135.out; have hnc278 := NB1135_1125.out; have hnb279 := NB1125_1139.out; have hnc279 := NB1139_1125.out; have hnb280 := NB1125_1143.out; have hnc280 := NB1143_1125.out; have hnb281 := NB1125_1147.out; have hnc281 := NB1147_1125.out; have hnb282 := NB1125_1151.out; have hnc282 := NB1151_1125.out; have hcz283_0 : w266.cell? ⟨gb1125, 0, none⟩ = some (.int .i64 a0_0) := (blk_cell BK1125.out 0).trans rfl; have hcz283_1 : w266.cell? ⟨gb1125, 1, none⟩ = some (.int .i64 a0_1) := (blk_cell BK1125.out 1).trans rfl; have hfz283_0 := blk_frozen BK1125.out 0; have hfz283_1 := blk_frozen BK1125.out 1) | ((with_reducible refine gate_callee (f := 52) rfl ?_); refine goesL_ (some 118) rfl rfl Tryd.func52 (by kernel_rfl) rfl #[.agg #[.int .i64 a0_0, .int .i64 a0_1], .agg #[.int .i64 t1156, .int .i64 t1157]] rfl qe_ ?_; (with_reducible refine (num_Add.calls kj150 a0_0 a0_1 t1156 t1157 t1160 t1161 t1162 _ A226.out).mono ?_); rintro e w284 ⟨rfl, hb⟩; refine ⟨_, rfl, ?_⟩; have n0_ := Aside0.mk (blk_below (g := gb1125) (o := .cells #[.int .i64 a0_0, .int .i64 a0_1] 23 (0, 0)) (by (with_reducible repeat (first | refine blk_drewN ?_ _ | refine blk_drew ?_ | refine blk_alloc ?_ _)); refine blk_far ?_ NB1125_1159.out _; (with_reducible repeat (first | refine blk_drewN ?_ _ | refine blk_drew ?_ | refine blk_alloc ?_ _)); refine blk_far ?_ NB1125_1159.out _; (with_reducible repeat (first | refine blk_drewN ?_ _ | refine blk_drew ?_ | refine blk_alloc ?_ _)); exact BK1125.out) hb); have n1_ := Aside0.mk (blk_below (g := gb1126) (o := .cells #[.int .i64 a1_0, .int .i64 a1_1] 23 (0, 0)) (by (with_reducible repeat (first | refine blk_drewN ?_ _ | refine blk_drew ?_ | refine blk_alloc ?_ _)); refine blk_far ?_ NB1126_1159.out _; (with_reducible repeat (first | refine blk_drewN ?_ _ | refine blk_drew ?_ | refine blk_alloc ?_ _)); refine blk_far ?_ NB1126_1159.out _; (with_reducible repeat (first | refine blk_drewN ?_ _ | refine blk_drew ?_ | refine blk_alloc ?_ _)); exact BK1126.out) hb); have n2_ := Aside0.mk (blk_below (g := gb1127) (o := .cells #[.int .i64 a2_0, .int .i64 a2_1] 23 (0, 0)) (by (with_reducible repeat (first | refine blk_drewN ?_ _ | refine blk_drew ?_ | refine blk_alloc ?_ _)); refine blk_far ?_ NB1127_1159.out _; (with_reducible repeat (first | refine blk_drewN ?_ _ | refine blk_drew ?_ | refine blk_alloc ?_ _)); refine blk_far ?_ NB1127_1159.out _; (with_reducible repeat (first | refine blk_drewN ?_ _ | refine blk_drew ?_ | refine blk_alloc ?_ _)); exact BK1127.out) hb); have n3_ := Aside0.mk (blk_below (g := gb1131) (o := .cells #[.int .i64 t1128, .int .i64 t1129] 23 (0, 0)) (by (with_reducible repeat (first | refine blk_drewN ?_ _ | refine blk_drew ?_ | refine blk_alloc ?_ _)); refine blk_far ?_ NB1131_1159.out _; (with_reducible repeat (first | refine blk_drewN ?_ _ | refine blk_drew ?_ | refine blk_alloc ?_ _)); refine blk_far ?_ NB1131_1159.out _; (with_reducible repeat (first | refine blk_drewN ?_ _ | refine blk_drew ?_ | refine blk_alloc ?_ _)); exact BK1131.out) hb); have n4_ := Aside0.mk (blk_below (g := gb1135) (o := .cells #[.int .i64 t1132, .int .i64 t1133] 23 (0, 0)) (by (with_reducible repeat (first | refine blk_drewN ?_ _ | refine blk_drew ?_ | refine blk_alloc ?_ _)); refine blk_far ?_ NB1135_1159.out _; (with_reducible repeat (first | refine blk_drewN ?_ _ | refine blk_drew ?_ | refine blk_alloc ?_ _)); refine blk_far ?_ NB1135_1159.out _; (with_reducible repeat (first | refine blk_drewN ?_ _ | refine blk_drew ?_ | refine blk_alloc ?_ _)); exact BK1135.out) hb); have n5_ := Aside0.mk (blk_below (g := gb1139) (o := .cells #[.int .i64 t1136, .int .i64 t1137] 23 (0, 0)) (by (with_reducible repeat (first | refine blk_drewN ?_ _ | refine blk_drew ?_ | refine blk_alloc ?_ _)); refine blk_far ?_ NB1139_1159.out _; (with_reducible repeat (first | refine blk_drewN ?_ _ | refine blk_drew ?_ | refine blk_alloc ?_ _)); refine blk_far ?_ NB1139_1159.out _; (with_reducible repeat (first | refine blk_drewN ?_ _ | refine blk_drew ?_ | refine blk_alloc ?_ _)); exact BK1139.out) hb); have n6_ := Aside0.mk (blk_below (g := gb1143) (o := .cells #[.int .i64 t1140, .int .i64 t1141] 23 (0, 0)) (by (with_reducible repeat (first | refine blk_drewN ?_ _ | refine blk_drew ?_ | refine blk_alloc ?_ _)); refine blk_far ?_ NB1143_1159.out _; (with_reducible repeat (first | refine blk_drewN ?_ _ | refine blk_drew ?_ | refine blk_alloc ?_ _)); refine blk_far ?_ NB1143_1159.out _; (with_reducible repeat (first | refine blk_drewN ?_ _ | refine blk_drew ?_ | refine blk_alloc ?_ _)); exact BK1143.out) hb); have n7_ := Aside0.mk (blk_below (g := gb1147) (o := .cells #[.int .i64 t1144, .int .i64 t1145] 23 (0, 0)) (by (with_reducible repeat (first | refine blk_drewN ?_ _ | refine blk_drew ?_ | refine blk_alloc ?_ _)); refine blk_far ?_ NB1147_1159.out _; (with_reducible repeat (first | refine blk_drewN ?_ _ | refine blk_drew ?_ | refine blk_alloc ?_ _)); refine blk_far ?_ NB1147_1159.out _; (with_reducible repeat (first | refine blk_drewN ?_ _ | refine blk_drew ?_ | refine blk_alloc ?_ _)); exact BK1147.out) hb); have n8_ := Aside0.mk (blk_below (g := gb1151) (o := .cells #[.int .i64 t1148, .int .i64 t1149] 23 (0, 0)) (by (with_reducible repeat (first | refine blk_drewN ?_ _ | refine blk_drew ?_ | refine blk_alloc ?_ _)); refine blk_far ?_ NB1151_1159.out _; (with_reducible repeat (first | refine blk_drewN ?_ _ | refine blk_drew ?_ | refine blk_alloc ?_ _)); refine blk_far ?_ NB1151_1159.out _; (with_reducible repeat (first | refine blk_drewN ?_ _ | refine blk_drew ?_ | refine blk_alloc ?_ _)); exact BK1151.out) hb); have n9_ := Aside0.mk (blk_below (g := gb1155) (o := .cells #[.int .i64 t1152, .int .i64 t1153] 23 (0, 0)) (by (with_reducible repeat (first | refine blk_drewN ?_ _ | refine blk_drew ?_ | refine blk_alloc ?_ _)); refine blk_far ?_ NB1155_1159.out _; (with_reducible repeat (first | refine blk_drewN ?_ _ | refine blk_drew ?_ | refine blk_alloc ?_ _)); refine blk_far ?_ NB1155_1159.out _; (with_reducible repeat (first | refine blk_drewN ?_ _ | refine blk_drew ?_ | refine blk_alloc ?_ _)); exact BK1155.out) hb); have n10_ := Aside0.mk (blk_below (g := gb1159) (o := .cells #[.int .i64 t1156, .int .i64 t1157] 23 (0, 0)) (by (with_reducible repeat (first | refine blk_drewN ?_ _ | refine blk_drew ?_ | refine blk_alloc ?_ _)); refine blk_put (cs := #[.int .i64 t1156, .int .i64 0]) ?_ 1 _ rfl; (with_reducible repeat (first | refine blk_drewN ?_ _ | refine blk_drew ?_ | refine blk_alloc ?_ _)); refine blk_put (cs := #[.int .i64 0, .int .i64 0]) ?_ 0 _ rfl; (with_reducible repeat (first | refine blk_drewN ?_ _ | refine blk_drew ?_ | refine blk_alloc ?_ _)); exact BK1159.out) hb); have n11_ := Aside0.mk (below_step (by repeat (first | (with_reducible first | exact HB.out | apply below_alloc | apply pw_below_drewN | apply below_drew1 | refine below_set ?_ GE1125.out | refine below_set ?_ GE1126.out | refine below_set ?_ GE1127.out | refine below_set ?_ GE1131.out | refine below_set ?_ GE1135.out | refine below_set ?_ GE1139.out | refine below_set ?_ GE1143.out | refine below_set ?_ GE1147.out | refine below_set ?_ GE1151.out | refine below_set ?_ GE1155.out | refine below_set ?_ GE1159.out) | exact HB.out)) hb); clear BK1125; clear BK1126; clear BK1127; clear BK1131; clear BK1135; clear BK1139; clear BK1143; clear BK1147; clear BK1151; clear BK1155; clear BK1159; clear HB; have BK1125 := n0_; have BK1126 := n1_; have BK1127 := n2_; have BK1131 := n3_; have BK1135 := n4_; have BK1139 := n5_; have BK1143 := n6_; have BK1147 := n7_; have BK1151 := n8_; have BK1155 := n9_; have BK1159 := n10_; have HB := n11_; clear n0_ n1_ n2_ n3_ n4_ n5_ n6_ n7_ n8_ n9_ n10_ n11_; (try clear hb); (try clear hb2); (try clear hk); (try clear hi)) | ((with_reducible refine gate_dst (N := 20) rfl ?_); refine qx_ 20 #[.int .i64 0, .int .i64 0] 23 ?hr ?_; (case hr => first | (go_simp; done) | (go_simp; rfl)); intro gb1163 hg w285 hbox hb; have n0_ := Aside0.mk (qk_ BK1125.out hb); have n1_ := Aside0.mk (qk_ BK1126.out hb); have n2_ := Aside0.mk (qk_ BK1127.out hb); have n3_ := Aside0.mk (qk_ BK1131.out hb); have n4_ := Aside0.mk (qk_ BK1135.out hb); have n5_ := Aside0.mk (qk_ BK1139.out hb); have n6_ := Aside0.mk (qk_ BK1143.out hb); have n7_ := Aside0.mk (qk_ BK1147.out hb); have n8_ := Aside0.mk (qk_ BK1151.out hb); have n9_ := Aside0.mk (qk_ BK1155.out hb); have n10_ := Aside0.mk (qk_ BK1159.out hb); have n11_ := Aside0.mk (below_step (by repeat (first | (with_reducible first | exact HB.out | apply below_alloc | apply pw_below_drewN | apply below_drew1 | refine below_set ?_ GE1125.out | refine below_set ?_ GE1126.out | refine below_set ?_ GE1127.out | refine below_set ?_ GE1131.out | refine below_set ?_ GE1135.out | refine below_set ?_ GE1139.out | refine below_set ?_ GE1143.out | refine below_set ?_ GE1147.out | refine below_set ?_ GE1151.out | refine below_set ?_ GE1155.out | refine below_set ?_ GE1159.out) | exact HB.out)) hb); have n12_ := Aside0.mk (hbox); have n13_ := Aside0.mk ((by rw [hg]; exact (below_size (by repeat (first | (with_reducible first | exact HB.out | apply below_alloc | apply pw_below_drewN | apply below_drew1 | refine below_set ?_ GE1125.out | refine below_set ?_ GE1126.out | refine below_set ?_ GE1127.out | refine below_set ?_ GE1131.out | refine below_set ?_ GE1135.out | refine below_set ?_ GE1139.out | refine below_set ?_ GE1143.out | refine below_set ?_ GE1147.out | refine below_set ?_ GE1151.out | refine below_set ?_ GE1155.out | refine below_set ?_ GE1159.out) | exact HB.out))) : w.heap.size ≤ gb1163)); have n14_ := Aside0.mk ((by rw [hg]; exact (below_size (by repeat (first | (with_reducible first | exact HB.out | apply below_alloc | apply pw_below_drewN | apply below_drew1 | refine below_set ?_ GE1125.out | refine below_set ?_ GE1126.out | refine below_set ?_ GE1127.out | refine below_set ?_ GE1131.out | refine below_set ?_ GE1135.out | refine below_set ?_ GE1139.out | refine below_set ?_ GE1143.out | refine below_set ?_ GE1147.out | refine below_set ?_ GE1151.out | refine below_set ?_ GE1155.out | refine below_set ?_ GE1159.out) | exact HB.out))) : w.heap.size ≤ gb1163)); have n15_ := Aside0.mk (qn_ hg BK1125.out); have n16_ := Aside0.mk (Ne.symm (qn_ hg BK1125.out)); have n17_ := Aside0.mk (qn_ hg BK1126.out); have n18_ := Aside0.mk (Ne.symm (qn_ hg BK1126.out)); have n19_ := Aside0.mk (qn_ hg BK1127.out); have n20_ := Aside0.mk (Ne.symm (qn_ hg BK1127.out)); have n21_ := Aside0.mk (qn_ hg BK1131.out); have n22_ := Aside0.mk (Ne.symm (qn_ hg BK1131.out)); have n23_ := Aside0.mk (qn_ hg BK1135.out); have n24_ := Aside0.mk (Ne.symm (qn_ hg BK1135.out)); have n25_ := Aside0.mk (qn_ hg BK1139.out); have n26_ := Aside0.mk (Ne.symm (qn_ hg BK1139.out)); have n27_ := Aside0.mk (qn_ hg BK1143.out); have n28_ := Aside0.mk (Ne.symm (qn_ hg BK1143.out)); have n29_ := Aside0.mk (qn_ hg BK1147.out); have n30_ := Aside0.mk (Ne.symm (qn_ hg BK1147.out)); have n31_ := Aside0.mk (qn_ hg BK1151.out); have n32_ := Aside0.mk (Ne.symm (qn_ hg BK1151.out)); have n33_ := Aside0.mk (qn_ hg BK1155.out); have n34_ := Aside0.mk (Ne.symm (qn_ hg BK1155.out)); have n35_ := Aside0.mk (qn_ hg BK1159.out); have n36_ := Aside0.mk (Ne.symm (qn_ hg BK1159.out)); clear BK1125; clear BK1126; clear BK1127; clear BK1131; clear BK1135; clear BK1139; clear BK1143; clear BK1147; clear BK1151; clear BK1155; clear BK1159; clear HB; have BK1125 := n0_; have BK1126 := n1_; have BK1127 := n2_; have BK1131 := n3_; have BK1135 := n4_; have BK1139 := n5_; have BK1143 := n6_; have BK1147 := n7_; have BK1151 := n8_; have BK1155 := n9_; have BK1159 := n10_; have HB := n11_; have BK1163 := n12_; have GW1163 := n13_; have GE1163 := n14_; have NB1125_1163 := n15_; have NB1163_1125 := n16_; have NB1126_1163 := n17_; have NB1163_1126 := n18_; have NB1127_1163 := n19_; have NB1163_1127 := n20_; have NB1131_1163 := n21_; have NB1163_1131 := n22_; have NB1135_1163 := n23_; have NB1163_1135 := n24_; have NB1139_1163 := n25_; have NB1163_1139 := n26_; have NB1143_1163 := n27_; have NB1163_1143 := n28_; have NB1147_1163 := n29_; have NB1163_1147 := n30_; have NB1151_1163 := n31_; have NB1163_1151 := n32_; have NB1155_1163 := n33_; have NB1163_1155 := n34_; have NB1159_1163 := n35_; have NB1163_1159 := n36_; clear n0_ n1_ n2_ n3_ n4_ n5_ n6_ n7_ n8_ n9_ n10_ n11_ n12_ n13_ n14_ n15_ n16_ n17_ n18_ n19_ n20_ n21_ n22_ n23_ n24_ n25_ n26_ n27_ n28_ n29_ n30_ n31_ n32_ n33_ n34_ n35_ n36_; clear hb hbox hg; have hnb286 := NB1163_1125.out; have hnc286 := NB1125_1163.out; have hnb287 := NB1163_1126.out; have hnc287 := NB1126_1163.out; have hnb288 := NB1163_1127.out; have hnc288 := NB1127_1163.out; have hnb289 := NB1163_1131.out; have hnc289 := NB1131_1163.out; have hnb290 := NB1163_1135.out; have hnc290 := NB1135_1163.out; have hnb291 := NB1163_1139.out; have hnc291 := NB1139_1163.out; have hnb292 := NB1163_1143.out; have hnc292 := NB1143_1163.out; have hnb293 := NB1163_1147.out; have hnc293 := NB1147_1163.out; have hnb294 := NB1163_1151.out; have hnc294 := NB1151_1163.out; have hnb295 := NB1163_1155.out; have hnc295 := NB1155_1163.out; have hnb296 := NB1163_1159.out; have hnc296 := NB1159_1163.out; have hcz297_0 : w285.cell? ⟨gb1163, 0, none⟩ = some (.int .i64 0) := (blk_cell BK1163.out 0).trans rfl; have hcz297_1 : w285.cell? ⟨gb1163, 1, none⟩ = some (.int .i64 0) := (blk_cell BK1163.out 1).trans rfl; have hfz297_0 := blk_frozen BK1163.out 0; have hfz297_1 := blk_frozen BK1163.out 1))
                          (try simp only [Act.put, List.setIfInBounds_toArray, List.set_cons_zero, List.set_cons_succ])
                          go_cut [135] (fun v135 wc => ∃ (kq : Nat) (x135_226 : Bool), v135 = .bool x135_226 ∧ Aside0 (merinolaw01_NumField.j4 kq x135_226 a0_0 a0_1 a2_0 a2_1 t1140 t1141 t1156 t1157 = some r) ∧ Aside0 (kq ≤ kj150) ∧ Aside0 (wc.heap[gb1125]? = some (.cells #[.int .i64 a0_0, .int .i64 a0_1] 23 (0, 0))) ∧ Aside0 (wc.heap[gb1126]? = some (.cells #[.int .i64 a1_0, .int .i64 a1_1] 23 (0, 0))) ∧ Aside0 (wc.heap[gb1127]? = some (.cells #[.int .i64 a2_0, .int .i64 a2_1] 23 (0, 0))) ∧ Aside0 (wc.heap[gb1131]? = some (.cells #[.int .i64 t1128, .int .i64 t1129] 23 (0, 0))) ∧ Aside0 (wc.heap[gb1135]? = some (.cells #[.int .i64 t1132, .int .i64 t1133] 23 (0, 0))) ∧ Aside0 (wc.heap[gb1139]? = some (.cells #[.int .i64 t1136, .int .i64 t1137] 23 (0, 0))) ∧ Aside0 (wc.heap[gb1143]? = some (.cells #[.int .i64 t1140, .int .i64 t1141] 23 (0, 0))) ∧ Aside0 (wc.heap[gb1147]? = some (.cells #[.int .i64 t1144, .int .i64 t1145] 23 (0, 0))) ∧ Aside0 (wc.heap[gb1151]? = some (.cells #[.int .i64 t1148, .int .i64 t1149] 23 (0, 0))) ∧ Aside0 (wc.heap[gb1155]? = some (.cells #[.int .i64 t1152, .int .i64 t1153] 23 (0, 0))) ∧ Aside0 (wc.heap[gb1159]? = some (.cells #[.int .i64 t1156, .int .i64 t1157] 23 (0, 0))) ∧ Aside0 (wc.heap[gb1163]? = some (.cells #[.int .i64 t1160, .int .i64 t1161] 23 (0, 0))) ∧ Aside0 (Below w.heap.size w wc))
                          case first =>
                            have H := HC227.out
                            clear HC227
                            by_cases c298 : t1154 = 0
                            · rw [if_pos c298] at H
                              have c298b0 : (t1154 == 0) = true := beq_iff_eq.mpr c298
                              have c298b1 : (t1154 != 0) = false := bne_eq_false_iff_eq.mpr c298
                              clear c298
                              (first | rw [c298b0] | (simp only [i64_w, i32_w]; rw [c298b0]) | skip)
                              by_cases c299 : t1158 = 0
                              · rw [if_pos c299] at H
                                have c299b0 : (t1158 == 0) = true := beq_iff_eq.mpr c299
                                have c299b1 : (t1158 != 0) = false := bne_eq_false_iff_eq.mpr c299
                                clear c299
                                by_cases c300 : t1162 = 0
                                · rw [if_pos c300] at H
                                  have c300b0 : (t1162 == 0) = true := beq_iff_eq.mpr c300
                                  have c300b1 : (t1162 != 0) = false := bne_eq_false_iff_eq.mpr c300
                                  clear c300
                                  have H' := Aside0.mk H
                                  clear H
                                  have hnb301 := NB1155_1125.out
                                  have hnc301 := NB1125_1155.out
                                  have hnb302 := NB1155_1126.out
                                  have hnc302 := NB1126_1155.out
                                  have hnb303 := NB1155_1127.out
                                  have hnc303 := NB1127_1155.out
                                  have hnb304 := NB1155_1131.out
                                  have hnc304 := NB1131_1155.out
                                  have hnb305 := NB1155_1135.out
                                  have hnc305 := NB1135_1155.out
                                  have hnb306 := NB1155_1139.out
                                  have hnc306 := NB1139_1155.out
                                  have hnb307 := NB1155_1143.out
                                  have hnc307 := NB1143_1155.out
                                  have hnb308 := NB1155_1147.out
                                  have hnc308 := NB1147_1155.out
                                  have hnb309 := NB1155_1151.out
                                  have hnc309 := NB1151_1155.out
                                  have hnb310 := NB1155_1159.out
                                  have hnc310 := NB1159_1155.out
                                  have hnb311 := NB1155_1163.out
                                  have hnc311 := NB1163_1155.out
                                  have hcz312_0 : w285.cell? ⟨gb1155, 0, none⟩ = some (.int .i64 t1152) := (blk_cell BK1155.out 0).trans rfl
                                  have hcz312_1 : w285.cell? ⟨gb1155, 1, none⟩ = some (.int .i64 t1153) := (blk_cell BK1155.out 1).trans rfl
                                  have hfz312_0 := blk_frozen BK1155.out 0
                                  have hfz312_1 := blk_frozen BK1155.out 1
                                  have hnb313 := NB1163_1125.out
                                  have hnc313 := NB1125_1163.out
                                  have hnb314 := NB1163_1126.out
                                  have hnc314 := NB1126_1163.out
                                  have hnb315 := NB1163_1127.out
                                  have hnc315 := NB1127_1163.out
                                  have hnb316 := NB1163_1131.out
                                  have hnc316 := NB1131_1163.out
                                  have hnb317 := NB1163_1135.out
                                  have hnc317 := NB1135_1163.out
                                  have hnb318 := NB1163_1139.out
                                  have hnc318 := NB1139_1163.out
                                  have hnb319 := NB1163_1143.out
                                  have hnc319 := NB1143_1163.out
                                  have hnb320 := NB1163_1147.out
                                  have hnc320 := NB1147_1163.out
                                  have hnb321 := NB1163_1151.out
                                  have hnc321 := NB1151_1163.out
                                  have hnb322 := NB1163_1159.out
                                  have hnc322 := NB1159_1163.out
                                  have hcz323_0 : w285.cell? ⟨gb1163, 0, none⟩ = some (.int .i64 0) := (blk_cell BK1163.out 0).trans rfl
                                  have hcz323_1 : w285.cell? ⟨gb1163, 1, none⟩ = some (.int .i64 0) := (blk_cell BK1163.out 1).trans rfl
                                  have hfz323_0 := blk_frozen BK1163.out 0
                                  have hfz323_1 := blk_frozen BK1163.out 1
                                  go_wp2
                                  go_meet
                                  case rel => exact ⟨_, ((!(t1152 == t1160) || (!(t1153 == t1161)))), (by first | rfl | (simp; done) | (simp [*]; done)), H', ⟨by have := HJ5.out; have := HJ50.out; have := HJ84.out; have := HJ150.out; first | omega | exact Nat.le_refl _⟩, ⟨by (with_reducible repeat (first | refine blk_drewN ?_ _ | refine blk_drew ?_ | refine blk_alloc ?_ _)); refine blk_far ?_ NB1125_1163.out _; (with_reducible repeat (first | refine blk_drewN ?_ _ | refine blk_drew ?_ | refine blk_alloc ?_ _)); refine blk_far ?_ NB1125_1163.out _; (with_reducible repeat (first | refine blk_drewN ?_ _ | refine blk_drew ?_ | refine blk_alloc ?_ _)); exact BK1125.out⟩, ⟨by (with_reducible repeat (first | refine blk_drewN ?_ _ | refine blk_drew ?_ | refine blk_alloc ?_ _)); refine blk_far ?_ NB1126_1163.out _; (with_reducible repeat (first | refine blk_drewN ?_ _ | refine blk_drew ?_ | refine blk_alloc ?_ _)); refine blk_far ?_ NB1126_1163.out _; (with_reducible repeat (first | refine blk_drewN ?_ _ | refine blk_drew ?_ | refine blk_alloc ?_ _)); exact BK1126.out⟩, ⟨by (with_reducible repeat (first | refine blk_drewN ?_ _ | refine blk_drew ?_ | refine blk_alloc ?_ _)); refine blk_far ?_ NB1127_1163.out _; (with_reducible repeat (first | refine blk_drewN ?_ _ | refine blk_drew ?_ | refine blk_alloc ?_ _)); refine blk_far ?_ NB1127_1163.out _; (with_reducible repeat (first | refine blk_drewN ?_ _ | refine blk_drew ?_ | refine blk_alloc ?_ _)); exact BK1127.out⟩, ⟨by (with_reducible repeat (first | refine blk_drewN ?_ _ | refine blk_drew ?_ | refine blk_alloc ?_ _)); refine blk_far ?_ NB1131_1163.out _; (with_reducible repeat (first | refine blk_drewN ?_ _ | refine blk_drew ?_ | refine blk_alloc ?_ _)); refine blk_far ?_ NB1131_1163.out _; (with_reducible repeat (first | refine blk_drewN ?_ _ | refine blk_drew ?_ | refine blk_alloc ?_ _)); exact BK1131.out⟩, ⟨by (with_reducible repeat (first | refine blk_drewN ?_ _ | refine blk_drew ?_ | refine blk_alloc ?_ _)); refine blk_far ?_ NB1135_1163.out _; (with_reducible repeat (first | refine blk_drewN ?_ _ | refine blk_drew ?_ | refine blk_alloc ?_ _)); refine blk_far ?_ NB1135_1163.out _; (with_reducible repeat (first | refine blk_drewN ?_ _ | refine blk_drew ?_ | refine blk_alloc ?_ _)); exact BK1135.out⟩, ⟨by (with_reducible repeat (first | refine blk_drewN ?_ _ | refine blk_drew ?_ | refine blk_alloc ?_ _)); refine blk_far ?_ NB1139_1163.out _; (with_reducible repeat (first | refine blk_drewN ?_ _ | refine blk_drew ?_ | refine blk_alloc ?_ _)); refine blk_far ?_ NB1139_1163.out _; (with_reducible repeat (first | refine blk_drewN ?_ _ | refine blk_drew ?_ | refine blk_alloc ?_ _)); exact BK1139.out⟩, ⟨by (with_reducible repeat (first | refine blk_drewN ?_ _ | refine blk_drew ?_ | refine blk_alloc ?_ _)); refine blk_far ?_ NB1143_1163.out _; (with_reducible repeat (first | refine blk_drewN ?_ _ | refine blk_drew ?_ | refine blk_alloc ?_ _)); refine blk_far ?_ NB1143_1163.out _; (with_reducible repeat (first | refine blk_drewN ?_ _ | refine blk_drew ?_ | refine blk_alloc ?_ _)); exact BK1143.out⟩, ⟨by (with_reducible repeat (first | refine blk_drewN ?_ _ | refine blk_drew ?_ | refine blk_alloc ?_ _)); refine blk_far ?_ NB1147_1163.out _; (with_reducible repeat (first | refine blk_drewN ?_ _ | refine blk_drew ?_ | refine blk_alloc ?_ _)); refine blk_far ?_ NB1147_1163.out _; (with_reducible repeat (first | refine blk_drewN ?_ _ | refine blk_drew ?_ | refine blk_alloc ?_ _)); exact BK1147.out⟩, ⟨by (with_reducible repeat (first | refine blk_drewN ?_ _ | refine blk_drew ?_ | refine blk_alloc ?_ _)); refine blk_far ?_ NB1151_1163.out _; (with_reducible repeat (first | refine blk_drewN ?_ _ | refine blk_drew ?_ | refine blk_alloc ?_ _)); refine blk_far ?_ NB1151_1163.out _; (with_reducible repeat (first | refine blk_drewN ?_ _ | refine blk_drew ?_ | refine blk_alloc ?_ _)); exact BK1151.out⟩, ⟨by (with_reducible repeat (first | refine blk_drewN ?_ _ | refine blk_drew ?_ | refine blk_alloc ?_ _)); refine blk_far ?_ NB1155_1163.out _; (with_reducible repeat (first | refine blk_drewN ?_ _ | refine blk_drew ?_ | refine blk_alloc ?_ _)); refine blk_far ?_ NB1155_1163.out _; (with_reducible repeat (first | refine blk_drewN ?_ _ | refine blk_drew ?_ | refine blk_alloc ?_ _)); exact BK1155.out⟩, ⟨by (with_reducible repeat (first | refine blk_drewN ?_ _ | refine blk_drew ?_ | refine blk_alloc ?_ _)); refine blk_far ?_ NB1159_1163.out _; (with_reducible repeat (first | refine blk_drewN ?_ _ | refine blk_drew ?_ | refine blk_alloc ?_ _)); refine blk_far ?_ NB1159_1163.out _; (with_reducible repeat (first | refine blk_drewN ?_ _ | refine blk_drew ?_ | refine blk_alloc ?_ _)); exact BK1159.out⟩, ⟨by (with_reducible repeat (first | refine blk_drewN ?_ _ | refine blk_drew ?_ | refine blk_alloc ?_ _)); refine blk_put (cs := #[.int .i64 t1160, .int .i64 0]) ?_ 1 _ rfl; (with_reducible repeat (first | refine blk_drewN ?_ _ | refine blk_drew ?_ | refine blk_alloc ?_ _)); refine blk_put (cs := #[.int .i64 0, .int .i64 0]) ?_ 0 _ rfl; (with_reducible repeat (first | refine blk_drewN ?_ _ | refine blk_drew ?_ | refine blk_alloc ?_ _)); exact BK1163.out⟩, ⟨by repeat (first | (with_reducible first | exact HB.out | apply below_alloc | apply pw_below_drewN | apply below_drew1 | refine below_set ?_ GE1125.out | refine below_set ?_ GE1126.out | refine below_set ?_ GE1127.out | refine below_set ?_ GE1131.out | refine below_set ?_ GE1135.out | refine below_set ?_ GE1139.out | refine below_set ?_ GE1143.out | refine below_set ?_ GE1147.out | refine below_set ?_ GE1151.out | refine below_set ?_ GE1155.out | refine below_set ?_ GE1159.out | refine below_set ?_ GE1163.out) | exact HB.out)⟩⟩
                                · rw [if_neg c300] at H
                                  have c300b0 : (t1162 == 0) = false := beq_eq_false_iff_ne.mpr c300
                                  have c300b1 : (t1162 != 0) = true := bne_iff_ne.mpr c300
                                  have H' := Aside0.mk H
                                  clear H
                                  go_wp2
                                  go_meet
                                  case rel => exact ⟨_, (false), (by first | rfl | (simp; done) | (simp [*]; done)), H', ⟨by have := HJ5.out; have := HJ50.out; have := HJ84.out; have := HJ150.out; first | omega | exact Nat.le_refl _⟩, ⟨by (with_reducible repeat (first | refine blk_drewN ?_ _ | refine blk_drew ?_ | refine blk_alloc ?_ _)); refine blk_far ?_ NB1125_1163.out _; (with_reducible repeat (first | refine blk_drewN ?_ _ | refine blk_drew ?_ | refine blk_alloc ?_ _)); refine blk_far ?_ NB1125_1163.out _; (with_reducible repeat (first | refine blk_drewN ?_ _ | refine blk_drew ?_ | refine blk_alloc ?_ _)); exact BK1125.out⟩, ⟨by (with_reducible repeat (first | refine blk_drewN ?_ _ | refine blk_drew ?_ | refine blk_alloc ?_ _)); refine blk_far ?_ NB1126_1163.out _; (with_reducible repeat (first | refine blk_drewN ?_ _ | refine blk_drew ?_ | refine blk_alloc ?_ _)); refine blk_far ?_ NB1126_1163.out _; (with_reducible repeat (first | refine blk_drewN ?_ _ | refine blk_drew ?_ | refine blk_alloc ?_ _)); exact BK1126.out⟩, ⟨by (with_reducible repeat (first | refine blk_drewN ?_ _ | refine blk_drew ?_ | refine blk_alloc ?_ _)); refine blk_far ?_ NB1127_1163.out _; (with_reducible repeat (first | refine blk_drewN ?_ _ | refine blk_drew ?_ | refine blk_alloc ?_ _)); refine blk_far ?_ NB1127_1163.out _; (with_reducible repeat (first | refine blk_drewN ?_ _ | refine blk_drew ?_ | refine blk_alloc ?_ _)); exact BK1127.out⟩, ⟨by (with_reducible repeat (first | refine blk_drewN ?_ _ | refine blk_drew ?_ | refine blk_alloc ?_ _)); refine blk_far ?_ NB1131_1163.out _; (with_reducible repeat (first | refine blk_drewN ?_ _ | refine blk_drew ?_ | refine blk_alloc ?_ _)); refine blk_far ?_ NB1131_1163.out _; (with_reducible repeat (first | refine blk_drewN ?_ _ | refine blk_drew ?_ | refine blk_alloc ?_ _)); exact BK1131.out⟩, ⟨by (with_reducible repeat (first | refine blk_drewN ?_ _ | refine blk_drew ?_ | refine blk_alloc ?_ _)); refine blk_far ?_ NB1135_1163.out _; (with_reducible repeat (first | refine blk_drewN ?_ _ | refine blk_drew ?_ | refine blk_alloc ?_ _)); refine blk_far ?_ NB1135_1163.out _; (with_reducible repeat (first | refine blk_drewN ?_ _ | refine blk_drew ?_ | refine blk_alloc ?_ _)); exact BK1135.out⟩, ⟨by (with_reducible repeat (first | refine blk_drewN ?_ _ | refine blk_drew ?_ | refine blk_alloc ?_ _)); refine blk_far ?_ NB1139_1163.out _; (with_reducible repeat (first | refine blk_drewN ?_ _ | refine blk_drew ?_ | refine blk_alloc ?_ _)); refine blk_far ?_ NB1139_1163.out _; (with_reducible repeat (first | refine blk_drewN ?_ _ | refine blk_drew ?_ | refine blk_alloc ?_ _)); exact BK1139.out⟩, ⟨by (with_reducible repeat (first | refine blk_drewN ?_ _ | refine blk_drew ?_ | refine blk_alloc ?_ _)); refine blk_far ?_ NB1143_1163.out _; (with_reducible repeat (first | refine blk_drewN ?_ _ | refine blk_drew ?_ | refine blk_alloc ?_ _)); refine blk_far ?_ NB1143_1163.out _; (with_reducible repeat (first | refine blk_drewN ?_ _ | refine blk_drew ?_ | refine blk_alloc ?_ _)); exact BK1143.out⟩, ⟨by (with_reducible repeat (first | refine blk_drewN ?_ _ | refine blk_drew ?_ | refine blk_alloc ?_ _)); refine blk_far ?_ NB1147_1163.out _; (with_reducible repeat (first | refine blk_drewN ?_ _ | refine blk_drew ?_ | refine blk_alloc ?_ _)); refine blk_far ?_ NB1147_1163.out _; (with_reducible repeat (first | refine blk_drewN ?_ _ | refine blk_drew ?_ | refine blk_alloc ?_ _)); exact BK1147.out⟩, ⟨by (with_reducible repeat (first | refine blk_drewN ?_ _ | refine blk_drew ?_ | refine blk_alloc ?_ _)); refine blk_far ?_ NB1151_1163.out _; (with_reducible repeat (first | refine blk_drewN ?_ _ | refine blk_drew ?_ | refine blk_alloc ?_ _)); refine blk_far ?_ NB1151_1163.out _; (with_reducible repeat (first | refine blk_drewN ?_ _ | refine blk_drew ?_ | refine blk_alloc ?_ _)); exact BK1151.out⟩, ⟨by (with_reducible repeat (first | refine blk_drewN ?_ _ | refine blk_drew ?_ | refine blk_alloc ?_ _)); refine blk_far ?_ NB1155_1163.out _; (with_reducible repeat (first | refine blk_drewN ?_ _ | refine blk_drew ?_ | refine blk_alloc ?_ _)); refine blk_far ?_ NB1155_1163.out _; (with_reducible repeat (first | refine blk_drewN ?_ _ | refine blk_drew ?_ | refine blk_alloc ?_ _)); exact BK1155.out⟩, ⟨by (with_reducible repeat (first | refine blk_drewN ?_ _ | refine blk_drew ?_ | refine blk_alloc ?_ _)); refine blk_far ?_ NB1159_1163.out _; (with_reducible repeat (first | refine blk_drewN ?_ _ | refine blk_drew ?_ | refine blk_alloc ?_ _)); refine blk_far ?_ NB1159_1163.out _; (with_reducible repeat (first | refine blk_drewN ?_ _ | refine blk_drew ?_ | refine blk_alloc ?_ _)); exact BK1159.out⟩, ⟨by (with_reducible repeat (first | refine blk_drewN ?_ _ | refine blk_drew ?_ | refine blk_alloc ?_ _)); refine blk_put (cs := #[.int .i64 t1160, .int .i64 0]) ?_ 1 _ rfl; (with_reducible repeat (first | refine blk_drewN ?_ _ | refine blk_drew ?_ | refine blk_alloc ?_ _)); refine blk_put (cs := #[.int .i64 0, .int .i64 0]) ?_ 0 _ rfl; (with_reducible repeat (first | refine blk_drewN ?_ _ | refine blk_drew ?_ | refine blk_alloc ?_ _)); exact BK1163.out⟩, ⟨by repeat (first | (with_reducible first | exact HB.out | apply below_alloc | apply pw_below_drewN | apply below_drew1 | refine below_set ?_ GE1125.out | refine below_set ?_ GE1126.out | refine below_set ?_ GE1127.out | refine below_set ?_ GE1131.out | refine below_set ?_ GE1135.out | refine below_set ?_ GE1139.out | refine below_set ?_ GE1143.out | refine below_set ?_ GE1147.out | refine below_set ?_ GE1151.out | refine below_set ?_ GE1155.out | refine below_set ?_ GE1159.out | refine below_set ?_ GE1163.out) | exact HB.out)⟩⟩
                              · rw [if_neg c299] at H
                                have c299b0 : (t1158 == 0) = false := beq_eq_false_iff_ne.mpr c299
                                have c299b1 : (t1158 != 0) = true := bne_iff_ne.mpr c299
                                have H' := Aside0.mk H
                                clear H
                                go_wp2
                                go_meet
                                case rel => exact ⟨_, (false), (by first | rfl | (simp; done) | (simp [*]; done)), H', ⟨by have := HJ5.out; have := HJ50.out; have := HJ84.out; have := HJ150.out; first | omega | exact Nat.le_refl _⟩, ⟨by (with_reducible repeat (first | refine blk_drewN ?_ _ | refine blk_drew ?_ | refine blk_alloc ?_ _)); refine blk_far ?_ NB1125_1163.out _; (with_reducible repeat (first | refine blk_drewN ?_ _ | refine blk_drew ?_ | refine blk_alloc ?_ _)); refine blk_far ?_ NB1125_1163.out _; (with_reducible repeat (first | refine blk_drewN ?_ _ | refine blk_drew ?_ | refine blk_alloc ?_ _)); exact BK1125.out⟩, ⟨by (with_reducible repeat (first | refine blk_drewN ?_ _ | refine blk_drew ?_ | refine blk_alloc ?_ _)); refine blk_far ?_ NB1126_1163.out _; (with_reducible repeat (first | refine blk_drewN ?_ _ | refine blk_drew ?_ | refine blk_alloc ?_ _)); refine blk_far ?_ NB1126_1163.out _; (with_reducible repeat (first | refine blk_drewN ?_ _ | refine blk_drew ?_ | refine blk_alloc ?_ _)); exact BK1126.out⟩, ⟨by (with_reducible repeat (first | refine blk_drewN ?_ _ | refine blk_drew ?_ | refine blk_alloc ?_ _)); refine blk_far ?_ NB1127_1163.out _; (with_reducible repeat (first | refine blk_drewN ?_ _ | refine blk_drew ?_ | refine blk_alloc ?_ _)); refine blk_far ?_ NB1127_1163.out _; (with_reducible repeat (first | refine blk_drewN ?_ _ | refine blk_drew ?_ | refine blk_alloc ?_ _)); exact BK1127.out⟩, ⟨by (with_reducible repeat (first | refine blk_drewN ?_ _ | refine blk_drew ?_ | refine blk_alloc ?_ _)); refine blk_far ?_ NB1131_1163.out _; (with_reducible repeat (first | refine blk_drewN ?_ _ | refine blk_drew ?_ | refine blk_alloc ?_ _)); refine blk_far ?_ NB1131_1163.out _; (with_reducible repeat (first | refine blk_drewN ?_ _ | refine blk_drew ?_ | refine blk_alloc ?_ _)); exact BK1131.out⟩, ⟨by (with_reducible repeat (first | refine blk_drewN ?_ _ | refine blk_drew ?_ | refine blk_alloc ?_ _)); refine blk_far ?_ NB1135_1163.out _; (with_reducible repeat (first | refine blk_drewN ?_ _ | refine blk_drew ?_ | refine blk_alloc ?_ _)); refine blk_far ?_ NB1135_1163.out _; (with_reducible repeat (first | refine blk_drewN ?_ _ | refine blk_drew ?_ | refine blk_alloc ?_ _)); exact BK1135.out⟩, ⟨by (with_reducible repeat (first | refine blk_drewN ?_ _ | refine blk_drew ?_ | refine blk_alloc ?_ _)); refine blk_far ?_ NB1139_1163.out _; (with_reducible repeat (first | refine blk_drewN ?_ _ | refine blk_drew ?_ | refine blk_alloc ?_ _)); refine blk_far ?_ NB1139_1163.out _; (with_reducible repeat (first | refine blk_drewN ?_ _ | refine blk_drew ?_ | refine blk_alloc ?_ _)); exact BK1139.out⟩, ⟨by (with_reducible repeat (first | refine blk_drewN ?_ _ | refine blk_drew ?_ | refine blk_alloc ?_ _)); refine blk_far ?_ NB1143_1163.out _; (with_reducible repeat (first | refine blk_drewN ?_ _ | refine blk_drew ?_ | refine blk_alloc ?_ _)); refine blk_far ?_ NB1143_1163.out _; (with_reducible repeat (first | refine blk_drewN ?_ _ | refine blk_drew ?_ | refine blk_alloc ?_ _)); exact BK1143.out⟩, ⟨by (with_reducible repeat (first | refine blk_drewN ?_ _ | refine blk_drew ?_ | refine blk_alloc ?_ _)); refine blk_far ?_ NB1147_1163.out _; (with_reducible repeat (first | refine blk_drewN ?_ _ | refine blk_drew ?_ | refine blk_alloc ?_ _)); refine blk_far ?_ NB1147_1163.out _; (with_reducible repeat (first | refine blk_drewN ?_ _ | refine blk_drew ?_ | refine blk_alloc ?_ _)); exact BK1147.out⟩, ⟨by (with_reducible repeat (first | refine blk_drewN ?_ _ | refine blk_drew ?_ | refine blk_alloc ?_ _)); refine blk_far ?_ NB1151_1163.out _; (with_reducible repeat (first | refine blk_drewN ?_ _ | refine blk_drew ?_ | refine blk_alloc ?_ _)); refine blk_far ?_ NB1151_1163.out _; (with_reducible repeat (first | refine blk_drewN ?_ _ | refine blk_drew ?_ | refine blk_alloc ?_ _)); exact BK1151.out⟩, ⟨by (with_reducible repeat (first | refine blk_drewN ?_ _ | refine blk_drew ?_ | refine blk_alloc ?_ _)); refine blk_far ?_ NB1155_1163.out _; (with_reducible repeat (first | refine blk_drewN ?_ _ | refine blk_drew ?_ | refine blk_alloc ?_ _)); refine blk_far ?_ NB1155_1163.out _; (with_reducible repeat (first | refine blk_drewN ?_ _ | refine blk_drew ?_ | refine blk_alloc ?_ _)); exact BK1155.out⟩, ⟨by (with_reducible repeat (first | refine blk_drewN ?_ _ | refine blk_drew ?_ | refine blk_alloc ?_ _)); refine blk_far ?_ NB1159_1163.out _; (with_reducible repeat (first | refine blk_drewN ?_ _ | refine blk_drew ?_ | refine blk_alloc ?_ _)); refine blk_far ?_ NB1159_1163.out _; (with_reducible repeat (first | refine blk_drewN ?_ _ | refine blk_drew ?_ | refine blk_alloc ?_ _)); exact BK1159.out⟩, ⟨by (with_reducible repeat (first | refine blk_drewN ?_ _ | refine blk_drew ?_ | refine blk_alloc ?_ _)); refine blk_put (cs := #[.int .i64 t1160, .int .i64 0]) ?_ 1 _ rfl; (with_reducible repeat (first | refine blk_drewN ?_ _ | refine blk_drew ?_ | refine blk_alloc ?_ _)); refine blk_put (cs := #[.int .i64 0, .int .i64 0]) ?_ 0 _ rfl; (with_reducible repeat (first | refine blk_drewN ?_ _ | refine blk_drew ?_ | refine blk_alloc ?_ _)); exact BK1163.out⟩, ⟨by repeat (first | (with_reducible first | exact HB.out | apply below_alloc | apply pw_below_drewN | apply below_drew1 | refine below_set ?_ GE1125.out | refine below_set ?_ GE1126.out | refine below_set ?_ GE1127.out | refine below_set ?_ GE1131.out | refine below_set ?_ GE1135.out | refine below_set ?_ GE1139.out | refine below_set ?_ GE1143.out | refine below_set ?_ GE1147.out | refine below_set ?_ GE1151.out | refine below_set ?_ GE1155.out | refine below_set ?_ GE1159.out | refine below_set ?_ GE1163.out) | exact HB.out)⟩⟩
                            · rw [if_neg c298] at H
                              have c298b0 : (t1154 == 0) = false := beq_eq_false_iff_ne.mpr c298
                              have c298b1 : (t1154 != 0) = true := bne_iff_ne.mpr c298
                              (first | rw [c298b0] | (simp only [i64_w, i32_w]; rw [c298b0]) | skip)
                              have H' := Aside0.mk H
                              clear H
                              go_wp2
                              go_meet
                              case rel => exact ⟨_, (false), (by first | rfl | (simp; done) | (simp [*]; done)), H', ⟨by have := HJ5.out; have := HJ50.out; have := HJ84.out; have := HJ150.out; first | omega | exact Nat.le_refl _⟩, ⟨by (with_reducible repeat (first | refine blk_drewN ?_ _ | refine blk_drew ?_ | refine blk_alloc ?_ _)); refine blk_far ?_ NB1125_1163.out _; (with_reducible repeat (first | refine blk_drewN ?_ _ | refine blk_drew ?_ | refine blk_alloc ?_ _)); refine blk_far ?_ NB1125_1163.out _; (with_reducible repeat (first | refine blk_drewN ?_ _ | refine blk_drew ?_ | refine blk_alloc ?_ _)); exact BK1125.out⟩, ⟨by (with_reducible repeat (first | refine blk_drewN ?_ _ | refine blk_drew ?_ | refine blk_alloc ?_ _)); refine blk_far ?_ NB1126_1163.out _; (with_reducible repeat (first | refine blk_drewN ?_ _ | refine blk_drew ?_ | refine blk_alloc ?_ _)); refine blk_far ?_ NB1126_1163.out _; (with_reducible repeat (first | refine blk_drewN ?_ _ | refine blk_drew ?_ | refine blk_alloc ?_ _)); exact BK1126.out⟩, ⟨by (with_reducible repeat (first | refine blk_drewN ?_ _ | refine blk_drew ?_ | refine blk_alloc ?_ _)); refine blk_far ?_ NB1127_1163.out _; (with_reducible repeat (first | refine blk_drewN ?_ _ | refine blk_drew ?_ | refine blk_alloc ?_ _)); refine blk_far ?_ NB1127_1163.out _; (with_reducible repeat (first | refine blk_drewN ?_ _ | refine blk_drew ?_ | refine blk_alloc ?_ _)); exact BK1127.out⟩, ⟨by (with_reducible repeat (first | refine blk_drewN ?_ _ | refine blk_drew ?_ | refine blk_alloc ?_ _)); refine blk_far ?_ NB1131_1163.out _; (with_reducible repeat (first | refine blk_drewN ?_ _ | refine blk_drew ?_ | refine blk_alloc ?_ _)); refine blk_far ?_ NB1131_1163.out _; (with_reducible repeat (first | refine blk_drewN ?_ _ | refine blk_drew ?_ | refine blk_alloc ?_ _)); exact BK1131.out⟩, ⟨by (with_reducible repeat (first | refine blk_drewN ?_ _ | refine blk_drew ?_ | refine blk_alloc ?_ _)); refine blk_far ?_ NB1135_1163.out _; (with_reducible repeat (first | refine blk_drewN ?_ _ | refine blk_drew ?_ | refine blk_alloc ?_ _)); refine blk_far ?_ NB1135_1163.out _; (with_reducible repeat (first | refine blk_drewN ?_ _ | refine blk_drew ?_ | refine blk_alloc ?_ _)); exact BK1135.out⟩, ⟨by (with_reducible repeat (first | refine blk_drewN ?_ _ | refine blk_drew ?_ | refine blk_alloc ?_ _)); refine blk_far ?_ NB1139_1163.out _; (with_reducible repeat (first | refine blk_drewN ?_ _ | refine blk_drew ?_ | refine blk_alloc ?_ _)); refine blk_far ?_ NB1139_1163.out _; (with_reducible repeat (first | refine blk_drewN ?_ _ | refine blk_drew ?_ | refine blk_alloc ?_ _)); exact BK1139.out⟩, ⟨by (with_reducible repeat (first | refine blk_drewN ?_ _ | refine blk_drew ?_ | refine blk_alloc ?_ _)); refine blk_far ?_ NB1143_1163.out _; (with_reducible repeat (first | refine blk_drewN ?_ _ | refine blk_drew ?_ | refine blk_alloc ?_ _)); refine blk_far ?_ NB1143_1163.out _; (with_reducible repeat (first | refine blk_drewN ?_ _ | refine blk_drew ?_ | refine blk_alloc ?_ _)); exact BK1143.out⟩, ⟨by (with_reducible repeat (first | refine blk_drewN ?_ _ | refine blk_drew ?_ | refine blk_alloc ?_ _)); refine blk_far ?_ NB1147_1163.out _; (with_reducible repeat (first | refine blk_drewN ?_ _ | refine blk_drew ?_ | refine blk_alloc ?_ _)); refine blk_far ?_ NB1147_1163.out _; (with_reducible repeat (first | refine blk_drewN ?_ _ | refine blk_drew ?_ | refine blk_alloc ?_ _)); exact BK1147.out⟩, ⟨by (with_reducible repeat (first | refine blk_drewN ?_ _ | refine blk_drew ?_ | refine blk_alloc ?_ _)); refine blk_far ?_ NB1151_1163.out _; (with_reducible repeat (first | refine blk_drewN ?_ _ | refine blk_drew ?_ | refine blk_alloc ?_ _)); refine blk_far ?_ NB1151_1163.out _; (with_reducible repeat (first | refine blk_drewN ?_ _ | refine blk_drew ?_ | refine blk_alloc ?_ _)); exact BK1151.out⟩, ⟨by (with_reducible repeat (first | refine blk_drewN ?_ _ | refine blk_drew ?_ | refine blk_alloc ?_ _)); refine blk_far ?_ NB1155_1163.out _; (with_reducible repeat (first | refine blk_drewN ?_ _ | refine blk_drew ?_ | refine blk_alloc ?_ _)); refine blk_far ?_ NB1155_1163.out _; (with_reducible repeat (first | refine blk_drewN ?_ _ | refine blk_drew ?_ | refine blk_alloc ?_ _)); exact BK1155.out⟩, ⟨by (with_reducible repeat (first | refine blk_drewN ?_ _ | refine blk_drew ?_ | refine blk_alloc ?_ _)); refine blk_far ?_ NB1159_1163.out _; (with_reducible repeat (first | refine blk_drewN ?_ _ | refine blk_drew ?_ | refine blk_alloc ?_ _)); refine blk_far ?_ NB1159_1163.out _; (with_reducible repeat (first | refine blk_drewN ?_ _ | refine blk_drew ?_ | refine blk_alloc ?_ _)); exact BK1159.out⟩, ⟨by (with_reducible repeat (first | refine blk_drewN ?_ _ | refine blk_drew ?_ | refine blk_alloc ?_ _)); refine blk_put (cs := #[.int .i64 t1160, .int .i64 0]) ?_ 1 _ rfl; (with_reducible repeat (first | refine blk_drewN ?_ _ | refine blk_drew ?_ | refine blk_alloc ?_ _)); refine blk_put (cs := #[.int .i64 0, .int .i64 0]) ?_ 0 _ rfl; (with_reducible repeat (first | refine blk_drewN ?_ _ | refine blk_drew ?_ | refine blk_alloc ?_ _)); exact BK1163.out⟩, ⟨by repeat (first | (with_reducible first | exact HB.out | apply below_alloc | apply pw_below_drewN | apply below_drew1 | refine below_set ?_ GE1125.out | refine below_set ?_ GE1126.out | refine below_set ?_ GE1127.out | refine below_set ?_ GE1131.out | refine below_set ?_ GE1135.out | refine below_set ?_ GE1139.out | refine below_set ?_ GE1143.out | refine below_set ?_ GE1147.out | refine below_set ?_ GE1151.out | refine below_set ?_ GE1155.out | refine below_set ?_ GE1159.out | refine below_set ?_ GE1163.out) | exact HB.out)⟩⟩
                          case rest =>
                            clear HC227
                            try clear c1
                            try clear c2
                            try clear p2
                            try clear c3
                            try clear c4
                            try clear c5
                            try clear c6
                            try clear c7
                            try clear c8
                            try clear c9
                            try clear c10
                            try clear c11
                            try clear c12
                            try clear c13
                            try clear c14
                            try clear c15
                            try clear c16
                            try clear c17
                            try clear c18
                            try clear c19
                            try clear c20
                            try clear c21
                            try clear c22
                            try clear c23
                            try clear c24
                            try clear c25
                            try clear c26
                            try clear c27
                            try clear c28
                            try clear c29
                            try clear c30
                            try clear c30b0
                            try clear c31
                            try clear c32
                            try clear c33
                            try clear c34
                            try clear c36
                            try clear c37
                            try clear c38
                            try clear c40
                            try clear c41
                            try clear c42
                            try clear c43
                            try clear c45
                            try clear c46
                            try clear c47
                            try clear c49
                            try clear c52
                            try clear c53
                            try clear c54
                            try clear c55
                            try clear c57
                            try clear c58
                            try clear c59
                            try clear c63
                            try clear c64
                            try clear c65
                            try clear c66
                            try clear c67
                            try clear c69
                            try clear c69b0
                            try clear c69b1
                            try clear c70
                            try clear c70b0
                            try clear c70b1
                            try clear c71
                            try clear c72
                            try clear c73
                            try clear c74
                            try clear c75
                            try clear c77
                            try clear c78
                            try clear c79
                            try clear c80
                            try clear c82
                            try clear c86
                            try clear c87
                            try clear c88
                            try clear c89
                            try clear c90
                            try clear c92
                            try clear c93
                            try clear c94
                            try clear c95
                            try clear c99
                            try clear c100
                            try clear c101
                            try clear c102
                            try clear c103
                            try clear c104
                            try clear c110
                            try clear c111
                            try clear c112
                            try clear c113
                            try clear c114
                            try clear c115
                            try clear c116
                            try clear c118
                            try clear c118b0
                            try clear c119
                            try clear c120
                            try clear c121
                            try clear c122
                            try clear c123
                            try clear c124
                            try clear c125
                            try clear c127
                            try clear c128
                            try clear c129
                            try clear c130
                            try clear c131
                            try clear c132
                            try clear c134
                            try clear c135
                            try clear c136
                            try clear c137
                            try clear c138
                            try clear c139
                            try clear c140
                            try clear c142
                            try clear c143
                            try clear c144
                            try clear c145
                            try clear c146
                            try clear c147
                            try clear c149
                            try clear c152
                            try clear c153
                            try clear c154
                            try clear c155
                            try clear c156
                            try clear c157
                            try clear c158
                            try clear c160
                            try clear c161
                            try clear c162
                            try clear c163
                            try clear c164
                            try clear c165
                            try clear c169
                            try clear c170
                            try clear c171
                            try clear c172
                            try clear c173
                            try clear c174
                            try clear c175
                            try clear c176
                            try clear c178
                            try clear c178b0
                            try clear c178b1
                            try clear c179
                            try clear c179b0
                            try clear c179b1
                            try clear c180
                            try clear c181
                            try clear c182
                            try clear c183
                            try clear c184
                            try clear c185
                            try clear c186
                            try clear c187
                            try clear c189
                            try clear c189b0
                            try clear c189b1
                            try clear c190
                            try clear c191
                            try clear c192
                            try clear c193
                            try clear c194
                            try clear c195
                            try clear c196
                            try clear c197
                            try clear c199
                            try clear c200
                            try clear c201
                            try clear c202
                            try clear c203
                            try clear c204
                            try clear c205
                            try clear c207
                            try clear c208
                            try clear c209
                            try clear c210
                            try clear c211
                            try clear c212
                            try clear c214
                            try clear c215
                            try clear c216
                            try clear c217
                            try clear c218
                            try clear c219
                            try clear c220
                            try clear c221
                            try clear c223
                            try clear c228
                            try clear c229
                            try clear c230
                            try clear c231
                            try clear c232
                            try clear c233
                            try clear c234
                            try clear c235
                            try clear c237
                            try clear c238
                            try clear c239
                            try clear c240
                            try clear c241
                            try clear c242
                            try clear c243
                            try clear c247
                            try clear c248
                            try clear c249
                            try clear c250
                            try clear c251
                            try clear c252
                            try clear c253
                            try clear c254
                            try clear c255
                            try clear c257
                            try clear c258
                            try clear c259
                            try clear c260
                            try clear c261
                            try clear c262
                            try clear c267
                            try clear c268
                            try clear c269
                            try clear c270
                            try clear c271
                            try clear c272
                            try clear c273
                            try clear c274
                            try clear c275
                            try clear c276
                            try clear c278
                            try clear c279
                            try clear c280
                            try clear c281
                            try clear c282
                            try clear c286
                            try clear c287
                            try clear c288
                            try clear c289
                            try clear c290
                            try clear c291
                            try clear c292
                            try clear c293
                            try clear c294
                            try clear c295
                            try clear c296
                            try clear c298
                            try clear c298b0
                            try clear c298b1
                            try clear c299
                            try clear c299b0
                            try clear c299b1
                            try clear c300
                            try clear c300b0
                            try clear c300b1
                            try clear c301
                            try clear c302
                            try clear c303
                            try clear c304
                            try clear c305
                            try clear c306
                            try clear c307
                            try clear c308
                            try clear c309
                            try clear c310
                            try clear c311
                            try clear c313
                            try clear c314
                            try clear c315
                            try clear c316
                            try clear c317
                            try clear c318
                            try clear c319
                            try clear c320
                            try clear c321
                            try clear c322
                            try clear hcz105_0
                            try clear hcz105_1
                            try clear hcz106_0
                            try clear hcz106_1
                            try clear hcz107_0
                            try clear hcz107_1
                            try clear hcz117_0
                            try clear hcz117_1
                            try clear hcz126_0
                            try clear hcz126_1
                            try clear hcz12_0
                            try clear hcz12_1
                            try clear hcz133_0
                            try clear hcz133_1
                            try clear hcz141_0
                            try clear hcz141_1
                            try clear hcz148_0
                            try clear hcz148_1
                            try clear hcz14_0
                            try clear hcz14_1
                            try clear hcz159_0
                            try clear hcz159_1
                            try clear hcz166_0
                            try clear hcz166_1
                            try clear hcz177_0
                            try clear hcz177_1
                            try clear hcz188_0
                            try clear hcz188_1
                            try clear hcz198_0
                            try clear hcz198_1
                            try clear hcz206_0
                            try clear hcz206_1
                            try clear hcz20_0
                            try clear hcz20_1
                            try clear hcz213_0
                            try clear hcz213_1
                            try clear hcz21_0
                            try clear hcz21_1
                            try clear hcz222_0
                            try clear hcz222_1
                            try clear hcz22_0
                            try clear hcz22_1
                            try clear hcz236_0
                            try clear hcz236_1
                            try clear hcz244_0
                            try clear hcz244_1
                            try clear hcz256_0
                            try clear hcz256_1
                            try clear hcz263_0
                            try clear hcz263_1
                            try clear hcz264_0
                            try clear hcz264_1
                            try clear hcz277_0
                            try clear hcz277_1
                            try clear hcz283_0
                            try clear hcz283_1
                            try clear hcz297_0
                            try clear hcz297_1
                            try clear hcz29_0
                            try clear hcz29_1
                            try clear hcz312_0
                            try clear hcz312_1
                            try clear hcz323_0
                            try clear hcz323_1
                            try clear hcz35_0
                            try clear hcz35_1
                            try clear hcz39_0
                            try clear hcz39_1
                            try clear hcz44_0
                            try clear hcz44_1
                            try clear hcz48_0
                            try clear hcz48_1
                            try clear hcz56_0
                            try clear hcz56_1
                            try clear hcz60_0
                            try clear hcz60_1
                            try clear hcz68_0
                            try clear hcz68_1
                            try clear hcz76_0
                            try clear hcz76_1
                            try clear hcz81_0
                            try clear hcz81_1
                            try clear hcz91_0
                            try clear hcz91_1
                            try clear hcz96_0
                            try clear hcz96_1
                            try clear hfz105_0
                            try clear hfz105_1
                            try clear hfz106_0
                            try clear hfz106_1
                            try clear hfz107_0
                            try clear hfz107_1
                            try clear hfz117_0
                            try clear hfz117_1
                            try clear hfz126_0
                            try clear hfz126_1
                            try clear hfz12_0
                            try clear hfz12_1
                            try clear hfz133_0
                            try clear hfz133_1
                            try clear hfz141_0
                            try clear hfz141_1
                            try clear hfz148_0
                            try clear hfz148_1
                            try clear hfz14_0
                            try clear hfz14_1
                            try clear hfz159_0
                            try clear hfz159_1
                            try clear hfz166_0
                            try clear hfz166_1
                            try clear hfz177_0
                            try clear hfz177_1
                            try clear hfz188_0
                            try clear hfz188_1
                            try clear hfz198_0
                            try clear hfz198_1
                            try clear hfz206_0
                            try clear hfz206_1
                            try clear hfz20_0
                            try clear hfz20_1
                            try clear hfz213_0
                            try clear hfz213_1
                            try clear hfz21_0
                            try clear hfz21_1
                            try clear hfz222_0
                            try clear hfz222_1
                            try clear hfz22_0
                            try clear hfz22_1
                            try clear hfz236_0
                            try clear hfz236_1
                            try clear hfz244_0
                            try clear hfz244_1
                            try clear hfz256_0
                            try clear hfz256_1
                            try clear hfz263_0
                            try clear hfz263_1
                            try clear hfz264_0
                            try clear hfz264_1
                            try clear hfz277_0
                            try clear hfz277_1
                            try clear hfz283_0
                            try clear hfz283_1
                            try clear hfz297_0
                            try clear hfz297_1
                            try clear hfz29_0
                            try clear hfz29_1
                            try clear hfz312_0
                            try clear hfz312_1
                            try clear hfz323_0
                            try clear hfz323_1
                            try clear hfz35_0
                            try clear hfz35_1
                            try clear hfz39_0
                            try clear hfz39_1
                            try clear hfz44_0
                            try clear hfz44_1
                            try clear hfz48_0
                            try clear hfz48_1
                            try clear hfz56_0
                            try clear hfz56_1
                            try clear hfz60_0
                            try clear hfz60_1
                            try clear hfz68_0
                            try clear hfz68_1
                            try clear hfz76_0
                            try clear hfz76_1
                            try clear hfz81_0
                            try clear hfz81_1
                            try clear hfz91_0
                            try clear hfz91_1
                            try clear hfz96_0
                            try clear hfz96_1
                            try clear p2
                            obtain ⟨kq, x135_226, rfl, HA, HJ226, BK1125, BK1126, BK1127, BK1131, BK1135, BK1139, BK1143, BK1147, BK1151, BK1155, BK1159, BK1163, HB⟩ := hcut
                            cases kq with
                            | zero => exact absurd HA.out (by simp [merinolaw01_NumField.j4])
                            | succ kj226 =>
                              have H := HA.out
                              clear HA
                              simp only [merinolaw01_NumField.j4] at H
                              by_cases c324 : x135_226 = true
                              · subst c324
                                have H1 : (none) = some r := by rw [if_pos rfl] at H; exact H
                                clear H
                                have H := H1
                                clear H1
                                exact absurd H (by simp)
                              · replace c324 := Bool.eq_false_iff.mpr c324
                                try clear BK1126
                                try clear GW1126
                                try clear GE1126
                                try clear NB1126_1125
                                try clear NB1126_1127
                                try clear NB1126_1131
                                try clear NB1126_1135
                                try clear NB1126_1139
                                try clear NB1126_1143
                                try clear NB1126_1147
                                try clear NB1126_1151
                                try clear NB1126_1155
                                try clear NB1126_1159
                                try clear NB1126_1163
                                try clear NB1125_1126
                                try clear NB1127_1126
                                try clear NB1143_1126
                                try clear NB1159_1126
                                try clear BK1131
                                try clear GW1131
                                try clear GE1131
                                try clear NB1131_1125
                                try clear NB1131_1126
                                try clear NB1131_1127
                                try clear NB1131_1135
                                try clear NB1131_1139
                                try clear NB1131_1143
                                try clear NB1131_1147
                                try clear NB1131_1151
                                try clear NB1131_1155
                                try clear NB1131_1159
                                try clear NB1131_1163
                                try clear NB1125_1131
                                try clear NB1127_1131
                                try clear NB1143_1131
                                try clear NB1159_1131
                                try clear BK1135
                                try clear GW1135
                                try clear GE1135
                                try clear NB1135_1125
                                try clear NB1135_1126
                                try clear NB1135_1127
                                try clear NB1135_1131
                                try clear NB1135_1139
                                try clear NB1135_1143
                                try clear NB1135_1147
                                try clear NB1135_1151
                                try clear NB1135_1155
                                try clear NB1135_1159
                                try clear NB1135_1163
                                try clear NB1125_1135
                                try clear NB1127_1135
                                try clear NB1143_1135
                                try clear NB1159_1135
                                try clear BK1139
                                try clear GW1139
                                try clear GE1139
                                try clear NB1139_1125
                                try clear NB1139_1126
                                try clear NB1139_1127
                                try clear NB1139_1131
                                try clear NB1139_1135
                                try clear NB1139_1143
                                try clear NB1139_1147
                                try clear NB1139_1151
                                try clear NB1139_1155
                                try clear NB1139_1159
                                try clear NB1139_1163
                                try clear NB1125_1139
                                try clear NB1127_1139
                                try clear NB1143_1139
                                try clear NB1159_1139
                                try clear BK1147
                                try clear GW1147
                                try clear GE1147
                                try clear NB1147_1125
                                try clear NB1147_1126
                                try clear NB1147_1127
                                try clear NB1147_1131
                                try clear NB1147_1135
                                try clear NB1147_1139
                                try clear NB1147_1143
                                try clear NB1147_1151
                                try clear NB1147_1155
                                try clear NB1147_1159
                                try clear NB1147_1163
                                try clear NB1125_1147
                                try clear NB1127_1147
                                try clear NB1143_1147
                                try clear NB1159_1147
                                try clear BK1151
                                try clear GW1151
                                try clear GE1151
                                try clear NB1151_1125
                                try clear NB1151_1126
                                try clear NB1151_1127
                                try clear NB1151_1131
                                try clear NB1151_1135
                                try clear NB1151_1139
                                try clear NB1151_1143
                                try clear NB1151_1147
                                try clear NB1151_1155
                                try clear NB1151_1159
                                try clear NB1151_1163
                                try clear NB1125_1151
                                try clear NB1127_1151
                                try clear NB1143_1151
                                try clear NB1159_1151
                                try clear BK1155
                                try clear GW1155
                                try clear GE1155
                                try clear NB1155_1125
                                try clear NB1155_1126
                                try clear NB1155_1127
                                try clear NB1155_1131
                                try clear NB1155_1135
                                try clear NB1155_1139
                                try clear NB1155_1143
                                try clear NB1155_1147
                                try clear NB1155_1151
                                try clear NB1155_1159
                                try clear NB1155_1163
                                try clear NB1125_1155
                                try clear NB1127_1155
                                try clear NB1143_1155
                                try clear NB1159_1155
                                try clear BK1163
                                try clear GW1163
                                try clear GE1163
                                try clear NB1163_1125
                                try clear NB1163_1126
                                try clear NB1163_1127
                                try clear NB1163_1131
                                try clear NB1163_1135
                                try clear NB1163_1139
                                try clear NB1163_1143
                                try clear NB1163_1147
                                try clear NB1163_1151
                                try clear NB1163_1155
                                try clear NB1163_1159
                                try clear NB1125_1163
                                try clear NB1127_1163
                                try clear NB1143_1163
                                try clear NB1159_1163
                                subst c324
                                have H1 : ((num_Mul.f kj226 a0_0 a0_1 t1156 t1157).bind fun bt1164 => ((num_Mul.f kj226 a0_0 a0_1 a2_0 a2_1).bind fun bt1168 => ((num_Add.f kj226 t1140 t1141 bt1168.1 bt1168.2.1).bind fun bt1172 => (if bt1164.2.2 = 0 then (if bt1168.2.2 = 0 then (if bt1172.2.2 = 0 then (if (bt1164.1 == bt1172.1 && (bt1164.2.1 == bt1172.2.1)) = true then ((merinolaw01_alive.f).bind fun t1176 => (some t1176)) else (none)) else ((merinolaw01_alive.f).bind fun t1177 => (some t1177))) else ((merinolaw01_alive.f).bind fun t1178 => (some t1178))) else ((merinolaw01_alive.f).bind fun t1179 => (some t1179)))))) = some r := by rw [if_neg (show ¬ (false = true) by decide)] at H; exact H
                                clear H
                                have H := H1
                                clear H1
                                replace H := Option.bind_eq_some_iff.mp H
                                obtain ⟨⟨t1164, t1165, t1166⟩, A3250, H⟩ := H
                                replace H : ((num_Mul.f kj226 a0_0 a0_1 a2_0 a2_1).bind fun bt1168 => ((num_Add.f kj226 t1140 t1141 bt1168.1 bt1168.2.1).bind fun bt1172 => (if t1166 = 0 then (if bt1168.2.2 = 0 then (if bt1172.2.2 = 0 then (if (t1164 == bt1172.1 && (t1165 == bt1172.2.1)) = true then ((merinolaw01_alive.f).bind fun t1176 => (some t1176)) else (none)) else ((merinolaw01_alive.f).bind fun t1177 => (some t1177))) else ((merinolaw01_alive.f).bind fun t1178 => (some t1178))) else ((merinolaw01_alive.f).bind fun t1179 => (some t1179))))) = some r := H
                                have A325 := Aside0.mk A3250
                                clear A3250
                                replace H := Option.bind_eq_some_iff.mp H
                                obtain ⟨⟨t1168, t1169, t1170⟩, A3260, H⟩ := H
                                replace H : ((num_Add.f kj226 t1140 t1141 t1168 t1169).bind fun bt1172 => (if t1166 = 0 then (if t1170 = 0 then (if bt1172.2.2 = 0 then (if (t1164 == bt1172.1 && (t1165 == bt1172.2.1)) = true then ((merinolaw01_alive.f).bind fun t1176 => (some t1176)) else (none)) else ((merinolaw01_alive.f).bind fun t1177 => (some t1177))) else ((merinolaw01_alive.f).bind fun t1178 => (some t1178))) else ((merinolaw01_alive.f).bind fun t1179 => (some t1179)))) = some r := H
                                have A326 := Aside0.mk A3260
                                clear A3260
                                replace H := Option.bind_eq_some_iff.mp H
                                obtain ⟨⟨t1172, t1173, t1174⟩, A3270, H⟩ := H
                                replace H : (if t1166 = 0 then (if t1170 = 0 then (if t1174 = 0 then (if (t1164 == t1172 && (t1165 == t1173)) = true then ((merinolaw01_alive.f).bind fun t1176 => (some t1176)) else (none)) else ((merinolaw01_alive.f).bind fun t1177 => (some t1177))) else ((merinolaw01_alive.f).bind fun t1178 => (some t1178))) else ((merinolaw01_alive.f).bind fun t1179 => (some t1179))) = some r := H
                                have A327 := Aside0.mk A3270
                                clear A3270
                                have hnb334 := NB1125_1127.out
                                have hnc334 := NB1127_1125.out
                                have hnb338 := NB1125_1143.out
                                have hnc338 := NB1143_1125.out
                                have hnb342 := NB1125_1159.out
                                have hnc342 := NB1159_1125.out
                                have hcz344_0 : wc.cell? ⟨gb1125, 0, none⟩ = some (.int .i64 a0_0) := (blk_cell BK1125.out 0).trans rfl
                                have hcz344_1 : wc.cell? ⟨gb1125, 1, none⟩ = some (.int .i64 a0_1) := (blk_cell BK1125.out 1).trans rfl
                                have hfz344_0 := blk_frozen BK1125.out 0
                                have hfz344_1 := blk_frozen BK1125.out 1
                                have hnb346 := NB1159_1127.out
                                have hnc346 := NB1127_1159.out
                                have hnb350 := NB1159_1143.out
                                have hnc350 := NB1143_1159.out
                                have hcz355_0 : wc.cell? ⟨gb1159, 0, none⟩ = some (.int .i64 t1156) := (blk_cell BK1159.out 0).trans rfl
                                have hcz355_1 : wc.cell? ⟨gb1159, 1, none⟩ = some (.int .i64 t1157) := (blk_cell BK1159.out 1).trans rfl
                                have hfz355_0 := blk_frozen BK1159.out 0
                                have hfz355_1 := blk_frozen BK1159.out 1
                                go_upto_region 23 with (first | ((with_reducible refine gate_callee (f := 54) rfl ?_); refine goesL_ (some 139) rfl rfl Tryd.func54 (by kernel_rfl) rfl #[.agg #[.int .i64 a0_0, .int .i64 a0_1], .agg #[.int .i64 t1156, .int .i64 t1157]] rfl qe_ ?_; (with_reducible refine (num_Mul.calls kj226 a0_0 a0_1 t1156 t1157 t1164 t1165 t1166 _ A325.out).mono ?_); rintro e w356 ⟨rfl, hb⟩; refine ⟨_, rfl, ?_⟩; have n0_ := Aside0.mk (qk_ BK1125.out hb); have n2_ := Aside0.mk (qk_ BK1127.out hb); have n6_ := Aside0.mk (qk_ BK1143.out hb); have n10_ := Aside0.mk (qk_ BK1159.out hb); have n12_ := Aside0.mk (below_step (q4_ HB.out GE1125.out GE1127.out GE1143.out GE1159.out) hb); clear BK1125; clear BK1127; clear BK1143; clear BK1159; clear HB; have BK1125 := n0_; have BK1127 := n2_; have BK1143 := n6_; have BK1159 := n10_; have HB := n12_; clear n0_ n2_ n6_ n10_ n12_; (try clear hb); (try clear hb2); (try clear hk); (try clear hi)) | ((with_reducible refine gate_dst (N := 21) rfl ?_); refine qx_ 21 #[.int .i64 0, .int .i64 0] 23 ?hr ?_; (case hr => first | (go_simp; done) | (go_simp; rfl)); intro gb1167 hg w357 hbox hb; have n0_ := Aside0.mk (qk_ BK1125.out hb); have n2_ := Aside0.mk (qk_ BK1127.out hb); have n6_ := Aside0.mk (qk_ BK1143.out hb); have n10_ := Aside0.mk (qk_ BK1159.out hb); have n12_ := Aside0.mk (below_step (q4_ HB.out GE1125.out GE1127.out GE1143.out GE1159.out) hb); have n13_ := Aside0.mk (hbox); have n14_ := Aside0.mk (qs_ hg (q4_ HB.out GE1125.out GE1127.out GE1143.out GE1159.out) : w.heap.size ≤ gb1167); have n15_ := n14_; have n16_ := Aside0.mk (qn_ hg BK1125.out); have n17_ := Aside0.mk (Ne.symm (qn_ hg BK1125.out)); have n20_ := Aside0.mk (qn_ hg BK1127.out); have n21_ := Aside0.mk (Ne.symm (qn_ hg BK1127.out)); have n28_ := Aside0.mk (qn_ hg BK1143.out); have n29_ := Aside0.mk (Ne.symm (qn_ hg BK1143.out)); have n36_ := Aside0.mk (qn_ hg BK1159.out); have n37_ := Aside0.mk (Ne.symm (qn_ hg BK1159.out)); clear BK1125; clear BK1127; clear BK1143; clear BK1159; clear HB; have BK1125 := n0_; have BK1127 := n2_; have BK1143 := n6_; have BK1159 := n10_; have HB := n12_; have BK1167 := n13_; have GW1167 := n14_; have GE1167 := n15_; have NB1125_1167 := n16_; have NB1167_1125 := n17_; have NB1127_1167 := n20_; have NB1167_1127 := n21_; have NB1143_1167 := n28_; have NB1167_1143 := n29_; have NB1159_1167 := n36_; have NB1167_1159 := n37_; clear n0_ n2_ n6_ n10_ n12_ n13_ n14_ n15_ n16_ n17_ n20_ n21_ n28_ n29_ n36_ n37_; clear hb hbox hg; have hnb358 := NB1167_1125.out; have hnc358 := NB1125_1167.out; have hnb360 := NB1167_1127.out; have hnc360 := NB1127_1167.out; have hnb364 := NB1167_1143.out; have hnc364 := NB1143_1167.out; have hnb368 := NB1167_1159.out; have hnc368 := NB1159_1167.out; have hcz370_0 : w357.cell? ⟨gb1167, 0, none⟩ = some (.int .i64 0) := (blk_cell BK1167.out 0).trans rfl; have hcz370_1 : w357.cell? ⟨gb1167, 1, none⟩ = some (.int .i64 0) := (blk_cell BK1167.out 1).trans rfl; have hfz370_0 := blk_frozen BK1167.out 0; have hfz370_1 := blk_frozen BK1167.out 1; have hcz371_0 : w357.cell? ⟨gb1125, 0, none⟩ = some (.int .i64 a0_0) := (blk_cell BK1125.out 0).trans rfl; have hcz371_1 : w357.cell? ⟨gb1125, 1, none⟩ = some (.int .i64 a0_1) := (blk_cell BK1125.out 1).trans rfl; have hfz371_0 := blk_frozen BK1125.out 0; have hfz371_1 := blk_frozen BK1125.out 1; have hnb376 := NB1127_1143.out; have hnc376 := NB1143_1127.out; have hcz381_0 : w357.cell? ⟨gb1127, 0, none⟩ = some (.int .i64 a2_0) := (blk_cell BK1127.out 0).trans rfl; have hcz381_1 : w357.cell? ⟨gb1127, 1, none⟩ = some (.int .i64 a2_1) := (blk_cell BK1127.out 1).trans rfl; have hfz381_0 := blk_frozen BK1127.out 0; have hfz381_1 := blk_frozen BK1127.out 1) | ((with_reducible refine gate_callee (f := 54) rfl ?_); refine goesL_ (some 145) rfl rfl Tryd.func54 (by kernel_rfl) rfl #[.agg #[.int .i64 a0_0, .int .i64 a0_1], .agg #[.int .i64 a2_0, .int .i64 a2_1]] rfl qe_ ?_; (with_reducible refine (num_Mul.calls kj226 a0_0 a0_1 a2_0 a2_1 t1168 t1169 t1170 _ A326.out).mono ?_); rintro e w382 ⟨rfl, hb⟩; refine ⟨_, rfl, ?_⟩; have n0_ := Aside0.mk (blk_below (g := gb1125) (o := .cells #[.int .i64 a0_0, .int .i64 a0_1] 23 (0, 0)) (by (with_reducible repeat (first | refine blk_drewN ?_ _ | refine blk_drew ?_ | refine blk_alloc ?_ _)); refine blk_far ?_ NB1125_1167.out _; (with_reducible repeat (first | refine blk_drewN ?_ _ | refine blk_drew ?_ | refine blk_alloc ?_ _)); refine blk_far ?_ NB1125_1167.out _; (with_reducible repeat (first | refine blk_drewN ?_ _ | refine blk_drew ?_ | refine blk_alloc ?_ _)); exact BK1125.out) hb); have n2_ := Aside0.mk (blk_below (g := gb1127) (o := .cells #[.int .i64 a2_0, .int .i64 a2_1] 23 (0, 0)) (by (with_reducible repeat (first | refine blk_drewN ?_ _ | refine blk_drew ?_ | refine blk_alloc ?_ _)); refine blk_far ?_ NB1127_1167.out _; (with_reducible repeat (first | refine blk_drewN ?_ _ | refine blk_drew ?_ | refine blk_alloc ?_ _)); refine blk_far ?_ NB1127_1167.out _; (with_reducible repeat (first | refine blk_drewN ?_ _ | refine blk_drew ?_ | refine blk_alloc ?_ _)); exact BK1127.out) hb); have n6_ := Aside0.mk (blk_below (g := gb1143) (o := .cells #[.int .i64 t1140, .int .i64 t1141] 23 (0, 0)) (by (with_reducible repeat (first | refine blk_drewN ?_ _ | refine blk_drew ?_ | refine blk_alloc ?_ _)); refine blk_far ?_ NB1143_1167.out _; (with_reducible repeat (first | refine blk_drewN ?_ _ | refine blk_drew ?_ | refine blk_alloc ?_ _)); refine blk_far ?_ NB1143_1167.out _; (with_reducible repeat (first | refine blk_drewN ?_ _ | refine blk_drew ?_ | refine blk_alloc ?_ _)); exact BK1143.out) hb); have n10_ := Aside0.mk (blk_below (g := gb1159) (o := .cells #[.int .i64 t1156, .int .i64 t1157] 23 (0, 0)) (by (with_reducible repeat (first | refine blk_drewN ?_ _ | refine blk_drew ?_ | refine blk_alloc ?_ _)); refine blk_far ?_ NB1159_1167.out _; (with_reducible repeat (first | refine blk_drewN ?_ _ | refine blk_drew ?_ | refine blk_alloc ?_ _)); refine blk_far ?_ NB1159_1167.out _; (with_reducible repeat (first | refine blk_drewN ?_ _ | refine blk_drew ?_ | refine blk_alloc ?_ _)); exact BK1159.out) hb); have n12_ := Aside0.mk (blk_below (g := gb1167) (o := .cells #[.int .i64 t1164, .int .i64 t1165] 23 (0, 0)) (by (with_reducible repeat (first | refine blk_drewN ?_ _ | refine blk_drew ?_ | refine blk_alloc ?_ _)); refine blk_put (cs := #[.int .i64 t1164, .int .i64 0]) ?_ 1 _ rfl; (with_reducible repeat (first | refine blk_drewN ?_ _ | refine blk_drew ?_ | refine blk_alloc ?_ _)); refine blk_put (cs := #[.int .i64 0, .int .i64 0]) ?_ 0 _ rfl; (with_reducible repeat (first | refine blk_drewN ?_ _ | refine blk_drew ?_ | refine blk_alloc ?_ _)); exact BK1167.out) hb); have n13_ := Aside0.mk (below_step (q5_ HB.out GE1125.out GE1127.out GE1143.out GE1159.out GE1167.out) hb); clear BK1125; clear BK1127; clear BK1143; clear BK1159; clear BK1167; clear HB; have BK1125 := n0_; have BK1127 := n2_; have BK1143 := n6_; have BK1159 := n10_; have BK1167 := n12_; have HB := n13_; clear n0_ n2_ n6_ n10_ n12_ n13_; (try clear hb); (try clear hb2); (try clear hk); (try clear hi)) | ((with_reducible refine gate_dst (N := 22) rfl ?_); refine qx_ 22 #[.int .i64 0, .int .i64 0] 23 ?hr ?_; (case hr => first | (go_simp; done) | (go_simp; rfl)); intro gb1171 hg w383 hbox hb; have n0_ := Aside0.mk (qk_ BK1125.out hb); have n2_ := Aside0.mk (qk_ BK1127.out hb); have n6_ := Aside0.mk (qk_ BK1143.out hb); have n10_ := Aside0.mk (qk_ BK1159.out hb); have n12_ := Aside0.mk (qk_ BK1167.out hb); have n13_ := Aside0.mk (below_step (q5_ HB.out GE1125.out GE1127.out GE1143.out GE1159.out GE1167.out) hb); have n14_ := Aside0.mk (hbox); have n15_ := Aside0.mk (qs_ hg (q5_ HB.out GE1125.out GE1127.out GE1143.out GE1159.out GE1167.out) : w.heap.size ≤ gb1171); have n16_ := n15_; have n17_ := Aside0.mk (qn_ hg BK1125.out); have n18_ := Aside0.mk (Ne.symm (qn_ hg BK1125.out)); have n21_ := Aside0.mk (qn_ hg BK1127.out); have n22_ := Aside0.mk (Ne.symm (qn_ hg BK1127.out)); have n29_ := Aside0.mk (qn_ hg BK1143.out); have n30_ := Aside0.mk (Ne.symm (qn_ hg BK1143.out)); have n37_ := Aside0.mk (qn_ hg BK1159.out); have n38_ := Aside0.mk (Ne.symm (qn_ hg BK1159.out)); have n41_ := Aside0.mk (qn_ hg BK1167.out); have n42_ := Aside0.mk (Ne.symm (qn_ hg BK1167.out)); clear BK1125; clear BK1127; clear BK1143; clear BK1159; clear BK1167; clear HB; have BK1125 := n0_; have BK1127 := n2_; have BK1143 := n6_; have BK1159 := n10_; have BK1167 := n12_; have HB := n13_; have BK1171 := n14_; have GW1171 := n15_; have GE1171 := n16_; have NB1125_1171 := n17_; have NB1171_1125 := n18_; have NB1127_1171 := n21_; have NB1171_1127 := n22_; have NB1143_1171 := n29_; have NB1171_1143 := n30_; have NB1159_1171 := n37_; have NB1171_1159 := n38_; have NB1167_1171 := n41_; have NB1171_1167 := n42_; clear n0_ n2_ n6_ n10_ n12_ n13_ n14_ n15_ n16_ n17_ n18_ n21_ n22_ n29_ n30_ n37_ n38_ n41_ n42_; clear hb hbox hg; have hnb384 := NB1171_1125.out; have hnc384 := NB1125_1171.out; have hnb386 := NB1171_1127.out; have hnc386 := NB1127_1171.out; have hnb390 := NB1171_1143.out; have hnc390 := NB1143_1171.out; have hnb394 := NB1171_1159.out; have hnc394 := NB1159_1171.out; have hnb396 := NB1171_1167.out; have hnc396 := NB1167_1171.out; have hcz397_0 : w383.cell? ⟨gb1171, 0, none⟩ = some (.int .i64 0) := (blk_cell BK1171.out 0).trans rfl; have hcz397_1 : w383.cell? ⟨gb1171, 1, none⟩ = some (.int .i64 0) := (blk_cell BK1171.out 1).trans rfl; have hfz397_0 := blk_frozen BK1171.out 0; have hfz397_1 := blk_frozen BK1171.out 1; have hcz406_0 : w383.cell? ⟨gb1143, 0, none⟩ = some (.int .i64 t1140) := (blk_cell BK1143.out 0).trans rfl; have hcz406_1 : w383.cell? ⟨gb1143, 1, none⟩ = some (.int .i64 t1141) := (blk_cell BK1143.out 1).trans rfl; have hfz406_0 := blk_frozen BK1143.out 0; have hfz406_1 := blk_frozen BK1143.out 1) | ((with_reducible refine gate_callee (f := 52) rfl ?_); refine goesL_ (some 151) rfl rfl Tryd.func52 (by kernel_rfl) rfl #[.agg #[.int .i64 t1140, .int .i64 t1141], .agg #[.int .i64 t1168, .int .i64 t1169]] rfl qe_ ?_; (with_reducible refine (num_Add.calls kj226 t1140 t1141 t1168 t1169 t1172 t1173 t1174 _ A327.out).mono ?_); rintro e w407 ⟨rfl, hb⟩; refine ⟨_, rfl, ?_⟩; have n0_ := Aside0.mk (blk_below (g := gb1125) (o := .cells #[.int .i64 a0_0, .int .i64 a0_1] 23 (0, 0)) (by (with_reducible repeat (first | refine blk_drewN ?_ _ | refine blk_drew ?_ | refine blk_alloc ?_ _)); refine blk_far ?_ NB1125_1171.out _; (with_reducible repeat (first | refine blk_drewN ?_ _ | refine blk_drew ?_ | refine blk_alloc ?_ _)); refine blk_far ?_ NB1125_1171.out _; (with_reducible repeat (first | refine blk_drewN ?_ _ | refine blk_drew ?_ | refine blk_alloc ?_ _)); exact BK1125.out) hb); have n2_ := Aside0.mk (blk_below (g := gb1127) (o := .cells #[.int .i64 a2_0, .int .i64 a2_1] 23 (0, 0)) (by (with_reducible repeat (first | refine blk_drewN ?_ _ | refine blk_drew ?_ | refine blk_alloc ?_ _)); refine blk_far ?_ NB1127_1171.out _; (with_reducible repeat (first | refine blk_drewN ?_ _ | refine blk_drew ?_ | refine blk_alloc ?_ _)); refine blk_far ?_ NB1127_1171.out _; (with_reducible repeat (first | refine blk_drewN ?_ _ | refine blk_drew ?_ | refine blk_alloc ?_ _)); exact BK1127.out) hb); have n6_ := Aside0.mk (blk_below (g := gb1143) (o := .cells #[.int .i64 t1140, .int .i64 t1141] 23 (0, 0)) (by (with_reducible repeat (first | refine blk_drewN ?_ _ | refine blk_drew ?_ | refine blk_alloc ?_ _)); refine blk_far ?_ NB1143_1171.out _; (with_reducible repeat (first | refine blk_drewN ?_ _ | refine blk_drew ?_ | refine blk_alloc ?_ _)); refine blk_far ?_ NB1143_1171.out _; (with_reducible repeat (first | refine blk_drewN ?_ _ | refine blk_drew ?_ | refine blk_alloc ?_ _)); exact BK1143.out) hb); have n10_ := Aside0.mk (blk_below (g := gb1159) (o := .cells #[.int .i64 t1156, .int .i64 t1157] 23 (0, 0)) (by (with_reducible repeat (first | refine blk_drewN ?_ _ | refine blk_drew ?_ | refine blk_alloc ?_ _)); refine blk_far ?_ NB1159_1171.out _; (with_reducible repeat (first | refine blk_drewN ?_ _ | refine blk_drew ?_ | refine blk_alloc ?_ _)); refine blk_far ?_ NB1159_1171.out _; (with_reducible repeat (first | refine blk_drewN ?_ _ | refine blk_drew ?_ | refine blk_alloc ?_ _)); exact BK1159.out) hb); have n12_ := Aside0.mk (blk_below (g := gb1167) (o := .cells #[.int .i64 t1164, .int .i64 t1165] 23 (0, 0)) (by (with_reducible repeat (first | refine blk_drewN ?_ _ | refine blk_drew ?_ | refine blk_alloc ?_ _)); refine blk_far ?_ NB1167_1171.out _; (with_reducible repeat (first | refine blk_drewN ?_ _ | refine blk_drew ?_ | refine blk_alloc ?_ _)); refine blk_far ?_ NB1167_1171.out _; (with_reducible repeat (first | refine blk_drewN ?_ _ | refine blk_drew ?_ | refine blk_alloc ?_ _)); exact BK1167.out) hb); have n13_ := Aside0.mk (blk_below (g := gb1171) (o := .cells #[.int .i64 t1168, .int .i64 t1169] 23 (0, 0)) (by (with_reducible repeat (first | refine blk_drewN ?_ _ | refine blk_drew ?_ | refine blk_alloc ?_ _)); refine blk_put (cs := #[.int .i64 t1168, .int .i64 0]) ?_ 1 _ rfl; (with_reducible repeat (first | refine blk_drewN ?_ _ | refine blk_drew ?_ | refine blk_alloc ?_ _)); refine blk_put (cs := #[.int .i64 0, .int .i64 0]) ?_ 0 _ rfl; (with_reducible repeat (first | refine blk_drewN ?_ _ | refine blk_drew ?_ | refine blk_alloc ?_ _)); exact BK1171.out) hb); have n14_ := Aside0.mk (below_step (q6_ HB.out GE1125.out GE1127.out GE1143.out GE1159.out GE1167.out GE1171.out) hb); clear BK1125; clear BK1127; clear BK1143; clear BK1159; clear BK1167; clear BK1171; clear HB; have BK1125 := n0_; have BK1127 := n2_; have BK1143 := n6_; have BK1159 := n10_; have BK1167 := n12_; have BK1171 := n13_; have HB := n14_; clear n0_ n2_ n6_ n10_ n12_ n13_ n14_; (try clear hb); (try clear hb2); (try clear hk); (try clear hi)) | ((with_reducible refine gate_dst (N := 23) rfl ?_); refine qx_ 23 #[.int .i64 0, .int .i64 0] 23 ?hr ?_; (case hr => first | (go_simp; done) | (go_simp; rfl)); intro gb1175 hg w408 hbox hb; have n0_ := Aside0.mk (qk_ BK1125.out hb); have n2_ := Aside0.mk (qk_ BK1127.out hb); have n6_ := Aside0.mk (qk_ BK1143.out hb); have n10_ := Aside0.mk (qk_ BK1159.out hb); have n12_ := Aside0.mk (qk_ BK1167.out hb); have n13_ := Aside0.mk (qk_ BK1171.out hb); have n14_ := Aside0.mk (below_step (q6_ HB.out GE1125.out GE1127.out GE1143.out GE1159.out GE1167.out GE1171.out) hb); have n15_ := Aside0.mk (hbox); have n16_ := Aside0.mk (qs_ hg (q6_ HB.out GE1125.out GE1127.out GE1143.out GE1159.out GE1167.out GE1171.out) : w.heap.size ≤ gb1175); have n17_ := n16_; have n18_ := Aside0.mk (qn_ hg BK1125.out); have n19_ := Aside0.mk (Ne.symm (qn_ hg BK1125.out)); have n22_ := Aside0.mk (qn_ hg BK1127.out); have n23_ := Aside0.mk (Ne.symm (qn_ hg BK1127.out)); have n30_ := Aside0.mk (qn_ hg BK1143.out); have n31_ := Aside0.mk (Ne.symm (qn_ hg BK1143.out)); have n38_ := Aside0.mk (qn_ hg BK1159.out); have n39_ := Aside0.mk (Ne.symm (qn_ hg BK1159.out)); have n42_ := Aside0.mk (qn_ hg BK1167.out); have n43_ := Aside0.mk (Ne.symm (qn_ hg BK1167.out)); have n44_ := Aside0.mk (qn_ hg BK1171.out); have n45_ := Aside0.mk (Ne.symm (qn_ hg BK1171.out)); clear BK1125; clear BK1127; clear BK1143; clear BK1159; clear BK1167; clear BK1171; clear HB; have BK1125 := n0_; have BK1127 := n2_; have BK1143 := n6_; have BK1159 := n10_; have BK1167 := n12_; have BK1171 := n13_; have HB := n14_; have BK1175 := n15_; have GW1175 := n16_; have GE1175 := n17_; have NB1125_1175 := n18_; have NB1175_1125 := n19_; have NB1127_1175 := n22_; have NB1175_1127 := n23_; have NB1143_1175 := n30_; have NB1175_1143 := n31_; have NB1159_1175 := n38_; have NB1175_1159 := n39_; have NB1167_1175 := n42_; have NB1175_1167 := n43_; have NB1171_1175 := n44_; have NB1175_1171 := n45_; clear n0_ n2_ n6_ n10_ n12_ n13_ n14_ n15_ n16_ n17_ n18_ n19_ n22_ n23_ n30_ n31_ n38_ n39_ n42_ n43_ n44_ n45_; clear hb hbox hg; have hnb409 := NB1175_1125.out; have hnc409 := NB1125_1175.out; have hnb411 := NB1175_1127.out; have hnc411 := NB1127_1175.out; have hnb415 := NB1175_1143.out; have hnc415 := NB1143_1175.out; have hnb419 := NB1175_1159.out; have hnc419 := NB1159_1175.out; have hnb421 := NB1175_1167.out; have hnc421 := NB1167_1175.out; have hnb422 := NB1175_1171.out; have hnc422 := NB1171_1175.out; have hcz423_0 : w408.cell? ⟨gb1175, 0, none⟩ = some (.int .i64 0) := (blk_cell BK1175.out 0).trans rfl; have hcz423_1 : w408.cell? ⟨gb1175, 1, none⟩ = some (.int .i64 0) := (blk_cell BK1175.out 1).trans rfl; have hfz423_0 := blk_frozen BK1175.out 0; have hfz423_1 := blk_frozen BK1175.out 1; have hcz424_0 : w408.cell? ⟨gb1167, 0, none⟩ = some (.int .i64 t1164) := (blk_cell BK1167.out 0).trans rfl; have hcz424_1 : w408.cell? ⟨gb1167, 1, none⟩ = some (.int .i64 t1165) := (blk_cell BK1167.out 1).trans rfl; have hfz424_0 := blk_frozen BK1167.out 0; have hfz424_1 := blk_frozen BK1167.out 1))
                                by_cases c328 : t1166 = 0
                                · rw [if_pos c328] at H
                                  have c328b0 : (t1166 == 0) = true := beq_iff_eq.mpr c328
                                  have c328b1 : (t1166 != 0) = false := bne_eq_false_iff_eq.mpr c328
                                  clear c328
                                  by_cases c329 : t1170 = 0
                                  · rw [if_pos c329] at H
                                    have c329b0 : (t1170 == 0) = true := beq_iff_eq.mpr c329
                                    have c329b1 : (t1170 != 0) = false := bne_eq_false_iff_eq.mpr c329
                                    clear c329
                                    by_cases c330 : t1174 = 0
                                    · rw [if_pos c330] at H
                                      have c330b0 : (t1174 == 0) = true := beq_iff_eq.mpr c330
                                      have c330b1 : (t1174 != 0) = false := bne_eq_false_iff_eq.mpr c330
                                      clear c330
                                      by_cases c331 : (t1164 == t1172 && (t1165 == t1173)) = true
                                      · rw [if_pos c331] at H
                                        have c331b0 : (t1164 == t1172 && (t1165 == t1173)) = true := c331
                                        (try (have c331b1 : decide (t1164 = t1172 && (t1165 == t1173)) = true := by simpa using c331))
                                        (try (have c331b2 : (t1164 == t1172 && (t1165 == t1173)) = true := by simpa using c331))
                                        clear c331
                                        replace H := Option.bind_eq_some_iff.mp H
                                        obtain ⟨t1176, A3320, H⟩ := H
                                        replace H : (some t1176) = some r := H
                                        have A332 := Aside0.mk A3320
                                        clear A3320
                                        obtain rfl := Option.some.inj H
                                        go_wp2_with (first | (go_at_call 21; (with_reducible refine (merinolaw01_alive.calls  t1176 _ A332.out).mono ?_); rintro e w425 ⟨rfl, hb⟩; have n0_ := Aside0.mk (blk_below (g := gb1125) (o := .cells #[.int .i64 a0_0, .int .i64 a0_1] 23 (0, 0)) (by (with_reducible repeat (first | refine blk_drewN ?_ _ | refine blk_drew ?_ | refine blk_alloc ?_ _)); refine blk_far ?_ NB1125_1175.out _; (with_reducible repeat (first | refine blk_drewN ?_ _ | refine blk_drew ?_ | refine blk_alloc ?_ _)); refine blk_far ?_ NB1125_1175.out _; (with_reducible repeat (first | refine blk_drewN ?_ _ | refine blk_drew ?_ | refine blk_alloc ?_ _)); exact BK1125.out) hb); have n2_ := Aside0.mk (blk_below (g := gb1127) (o := .cells #[.int .i64 a2_0, .int .i64 a2_1] 23 (0, 0)) (by (with_reducible repeat (first | refine blk_drewN ?_ _ | refine blk_drew ?_ | refine blk_alloc ?_ _)); refine blk_far ?_ NB1127_1175.out _; (with_reducible repeat (first | refine blk_drewN ?_ _ | refine blk_drew ?_ | refine blk_alloc ?_ _)); refine blk_far ?_ NB1127_1175.out _; (with_reducible repeat (first | refine blk_drewN ?_ _ | refine blk_drew ?_ | refine blk_alloc ?_ _)); exact BK1127.out) hb); have n6_ := Aside0.mk (blk_below (g := gb1143) (o := .cells #[.int .i64 t1140, .int .i64 t1141] 23 (0, 0)) (by (with_reducible repeat (first | refine blk_drewN ?_ _ | refine blk_drew ?_ | refine blk_alloc ?_ _)); refine blk_far ?_ NB1143_1175.out _; (with_reducible repeat (first | refine blk_drewN ?_ _ | refine blk_drew ?_ | refine blk_alloc ?_ _)); refine blk_far ?_ NB1143_1175.out _; (with_reducible repeat (first | refine blk_drewN ?_ _ | refine blk_drew ?_ | refine blk_alloc ?_ _)); exact BK1143.out) hb); have n10_ := Aside0.mk (blk_below (g := gb1159) (o := .cells #[.int .i64 t1156, .int .i64 t1157] 23 (0, 0)) (by (with_reducible repeat (first | refine blk_drewN ?_ _ | refine blk_drew ?_ | refine blk_alloc ?_ _)); refine blk_far ?_ NB1159_1175.out _; (with_reducible repeat (first | refine blk_drewN ?_ _ | refine blk_drew ?_ | refine blk_alloc ?_ _)); refine blk_far ?_ NB1159_1175.out _; (with_reducible repeat (first | refine blk_drewN ?_ _ | refine blk_drew ?_ | refine blk_alloc ?_ _)); exact BK1159.out) hb); have n12_ := Aside0.mk (blk_below (g := gb1167) (o := .cells #[.int .i64 t1164, .int .i64 t1165] 23 (0, 0)) (by (with_reducible repeat (first | refine blk_drewN ?_ _ | refine blk_drew ?_ | refine blk_alloc ?_ _)); refine blk_far ?_ NB1167_1175.out _; (with_reducible repeat (first | refine blk_drewN ?_ _ | refine blk_drew ?_ | refine blk_alloc ?_ _)); refine blk_far ?_ NB1167_1175.out _; (with_reducible repeat (first | refine blk_drewN ?_ _ | refine blk_drew ?_ | refine blk_alloc ?_ _)); exact BK1167.out) hb); have n13_ := Aside0.mk (blk_below (g := gb1171) (o := .cells #[.int .i64 t1168, .int .i64 t1169] 23 (0, 0)) (by (with_reducible repeat (first | refine blk_drewN ?_ _ | refine blk_drew ?_ | refine blk_alloc ?_ _)); refine blk_far ?_ NB1171_1175.out _; (with_reducible repeat (first | refine blk_drewN ?_ _ | refine blk_drew ?_ | refine blk_alloc ?_ _)); refine blk_far ?_ NB1171_1175.out _; (with_reducible repeat (first | refine blk_drewN ?_ _ | refine blk_drew ?_ | refine blk_alloc ?_ _)); exact BK1171.out) hb); have n14_ := Aside0.mk (blk_below (g := gb1175) (o := .cells #[.int .i64 t1172, .int .i64 t1173] 23 (0, 0)) (by (with_reducible repeat (first | refine blk_drewN ?_ _ | refine blk_drew ?_ | refine blk_alloc ?_ _)); refine blk_put (cs := #[.int .i64 t1172, .int .i64 0]) ?_ 1 _ rfl; (with_reducible repeat (first | refine blk_drewN ?_ _ | refine blk_drew ?_ | refine blk_alloc ?_ _)); refine blk_put (cs := #[.int .i64 0, .int .i64 0]) ?_ 0 _ rfl; (with_reducible repeat (first | refine blk_drewN ?_ _ | refine blk_drew ?_ | refine blk_alloc ?_ _)); exact BK1175.out) hb); have n15_ := Aside0.mk (below_step (q7_ HB.out GE1125.out GE1127.out GE1143.out GE1159.out GE1167.out GE1171.out GE1175.out) hb); clear BK1125; clear BK1127; clear BK1143; clear BK1159; clear BK1167; clear BK1171; clear BK1175; clear HB; have BK1125 := n0_; have BK1127 := n2_; have BK1143 := n6_; have BK1159 := n10_; have BK1167 := n12_; have BK1171 := n13_; have BK1175 := n14_; have HB := n15_; clear n0_ n2_ n6_ n10_ n12_ n13_ n14_ n15_; (try clear hb); (try clear hb2); (try clear hk); (try clear hi)))
                                        go_ret
                                        exact ⟨by first | rfl | (simp [errW_none, errW_some] <;> rfl) | (simp [*, errW_none, errW_some] <;> rfl), (q7_ HB.out GE1125.out GE1127.out GE1143.out GE1159.out GE1167.out GE1171.out GE1175.out)⟩
                                      · rw [if_neg c331] at H
                                        exact absurd H (by simp)
                                    · rw [if_neg c330] at H
                                      have c330b0 : (t1174 == 0) = false := beq_eq_false_iff_ne.mpr c330
                                      have c330b1 : (t1174 != 0) = true := bne_iff_ne.mpr c330
                                      replace H := Option.bind_eq_some_iff.mp H
                                      obtain ⟨t1177, A4260, H⟩ := H
                                      replace H : (some t1177) = some r := H
                                      have A426 := Aside0.mk A4260
                                      clear A4260
                                      obtain rfl := Option.some.inj H
                                      go_wp2_with (first | (go_at_call 21; (with_reducible refine (merinolaw01_alive.calls  t1177 _ A426.out).mono ?_); rintro e w518 ⟨rfl, hb⟩; have n0_ := Aside0.mk (blk_below (g := gb1125) (o := .cells #[.int .i64 a0_0, .int .i64 a0_1] 23 (0, 0)) (by (with_reducible repeat (first | refine blk_drewN ?_ _ | refine blk_drew ?_ | refine blk_alloc ?_ _)); refine blk_far ?_ NB1125_1175.out _; (with_reducible repeat (first | refine blk_drewN ?_ _ | refine blk_drew ?_ | refine blk_alloc ?_ _)); refine blk_far ?_ NB1125_1175.out _; (with_reducible repeat (first | refine blk_drewN ?_ _ | refine blk_drew ?_ | refine blk_alloc ?_ _)); exact BK1125.out) hb); have n2_ := Aside0.mk (blk_below (g := gb1127) (o := .cells #[.int .i64 a2_0, .int .i64 a2_1] 23 (0, 0)) (by (with_reducible repeat (first | refine blk_drewN ?_ _ | refine blk_drew ?_ | refine blk_alloc ?_ _)); refine blk_far ?_ NB1127_1175.out _; (with_reducible repeat (first | refine blk_drewN ?_ _ | refine blk_drew ?_ | refine blk_alloc ?_ _)); refine blk_far ?_ NB1127_1175.out _; (with_reducible repeat (first | refine blk_drewN ?_ _ | refine blk_drew ?_ | refine blk_alloc ?_ _)); exact BK1127.out) hb); have n6_ := Aside0.mk (blk_below (g := gb1143) (o := .cells #[.int .i64 t1140, .int .i64 t1141] 23 (0, 0)) (by (with_reducible repeat (first | refine blk_drewN ?_ _ | refine blk_drew ?_ | refine blk_alloc ?_ _)); refine blk_far ?_ NB1143_1175.out _; (with_reducible repeat (first | refine blk_drewN ?_ _ | refine blk_drew ?_ | refine blk_alloc ?_ _)); refine blk_far ?_ NB1143_1175.out _; (with_reducible repeat (first | refine blk_drewN ?_ _ | refine blk_drew ?_ | refine blk_alloc ?_ _)); exact BK1143.out) hb); have n10_ := Aside0.mk (blk_below (g := gb1159) (o := .cells #[.int .i64 t1156, .int .i64 t1157] 23 (0, 0)) (by (with_reducible repeat (first | refine blk_drewN ?_ _ | refine blk_drew ?_ | refine blk_alloc ?_ _)); refine blk_far ?_ NB1159_1175.out _; (with_reducible repeat (first | refine blk_drewN ?_ _ | refine blk_drew ?_ | refine blk_alloc ?_ _)); refine blk_far ?_ NB1159_1175.out _; (with_reducible repeat (first | refine blk_drewN ?_ _ | refine blk_drew ?_ | refine blk_alloc ?_ _)); exact BK1159.out) hb); have n12_ := Aside0.mk (blk_below (g := gb1167) (o := .cells #[.int .i64 t1164, .int .i64 t1165] 23 (0, 0)) (by (with_reducible repeat (first | refine blk_drewN ?_ _ | refine blk_drew ?_ | refine blk_alloc ?_ _)); refine blk_far ?_ NB1167_1175.out _; (with_reducible repeat (first | refine blk_drewN ?_ _ | refine blk_drew ?_ | refine blk_alloc ?_ _)); refine blk_far ?_ NB1167_1175.out _; (with_reducible repeat (first | refine blk_drewN ?_ _ | refine blk_drew ?_ | refine blk_alloc ?_ _)); exact BK1167.out) hb); have n13_ := Aside0.mk (blk_below (g := gb1171) (o := .cells #[.int .i64 t1168, .int .i64 t1169] 23 (0, 0)) (by (with_reducible repeat (first | refine blk_drewN ?_ _ | refine blk_drew ?_ | refine blk_alloc ?_ _)); refine blk_far ?_ NB1171_1175.out _; (with_reducible repeat (first | refine blk_drewN ?_ _ | refine blk_drew ?_ | refine blk_alloc ?_ _)); refine blk_far ?_ NB1171_1175.out _; (with_reducible repeat (first | refine blk_drewN ?_ _ | refine blk_drew ?_ | refine blk_alloc ?_ _)); exact BK1171.out) hb); have n14_ := Aside0.mk (blk_below (g := gb1175) (o := .cells #[.int .i64 t1172, .int .i64 t1173] 23 (0, 0)) (by (with_reducible repeat (first | refine blk_drewN ?_ _ | refine blk_drew ?_ | refine blk_alloc ?_ _)); refine blk_put (cs := #[.int .i64 t1172, .int .i64 0]) ?_ 1 _ rfl; (with_reducible repeat (first | refine blk_drewN ?_ _ | refine blk_drew ?_ | refine blk_alloc ?_ _)); refine blk_put (cs := #[.int .i64 0, .int .i64 0]) ?_ 0 _ rfl; (with_reducible repeat (first | refine blk_drewN ?_ _ | refine blk_drew ?_ | refine blk_alloc ?_ _)); exact BK1175.out) hb); have n15_ := Aside0.mk (below_step (q7_ HB.out GE1125.out GE1127.out GE1143.out GE1159.out GE1167.out GE1171.out GE1175.out) hb); clear BK1125; clear BK1127; clear BK1143; clear BK1159; clear BK1167; clear BK1171; clear BK1175; clear HB; have BK1125 := n0_; have BK1127 := n2_; have BK1143 := n6_; have BK1159 := n10_; have BK1167 := n12_; have BK1171 := n13_; have BK1175 := n14_; have HB := n15_; clear n0_ n2_ n6_ n10_ n12_ n13_ n14_ n15_; (try clear hb); (try clear hb2); (try clear hk); (try clear hi)))
                                      go_ret
                                      exact ⟨by first | rfl | (simp [errW_none, errW_some] <;> rfl) | (simp [*, errW_none, errW_some] <;> rfl), (q7_ HB.out GE1125.out GE1127.out GE1143.out GE1159.out GE1167.out GE1171.out GE1175.out)⟩
                                  · rw [if_neg c329] at H
                                    have c329b0 : (t1170 == 0) = false := beq_eq_false_iff_ne.mpr c329
                                    have c329b1 : (t1170 != 0) = true := bne_iff_ne.mpr c329
                                    replace H := Option.bind_eq_some_iff.mp H
                                    obtain ⟨t1178, A5190, H⟩ := H
                                    replace H : (some t1178) = some r := H
                                    have A519 := Aside0.mk A5190
                                    clear A5190
                                    obtain rfl := Option.some.inj H
                                    go_wp2_with (first | (go_at_call 21; (with_reducible refine (merinolaw01_alive.calls  t1178 _ A519.out).mono ?_); rintro e w611 ⟨rfl, hb⟩; have n0_ := Aside0.mk (blk_below (g := gb1125) (o := .cells #[.int .i64 a0_0, .int .i64 a0_1] 23 (0, 0)) (by (with_reducible repeat (first | refine blk_drewN ?_ _ | refine blk_drew ?_ | refine blk_alloc ?_ _)); refine blk_far ?_ NB1125_1175.out _; (with_reducible repeat (first | refine blk_drewN ?_ _ | refine blk_drew ?_ | refine blk_alloc ?_ _)); refine blk_far ?_ NB1125_1175.out _; (with_reducible repeat (first | refine blk_drewN ?_ _ | refine blk_drew ?_ | refine blk_alloc ?_ _)); exact BK1125.out) hb); have n2_ := Aside0.mk (blk_below (g := gb1127) (o := .cells #[.int .i64 a2_0, .int .i64 a2_1] 23 (0, 0)) (by (with_reducible repeat (first | refine blk_drewN ?_ _ | refine blk_drew ?_ | refine blk_alloc ?_ _)); refine blk_far ?_ NB1127_1175.out _; (with_reducible repeat (first | refine blk_drewN ?_ _ | refine blk_drew ?_ | refine blk_alloc ?_ _)); refine blk_far ?_ NB1127_1175.out _; (with_reducible repeat (first | refine blk_drewN ?_ _ | refine blk_drew ?_ | refine blk_alloc ?_ _)); exact BK1127.out) hb); have n6_ := Aside0.mk (blk_below (g := gb1143) (o := .cells #[.int .i64 t1140, .int .i64 t1141] 23 (0, 0)) (by (with_reducible repeat (first | refine blk_drewN ?_ _ | refine blk_drew ?_ | refine blk_alloc ?_ _)); refine blk_far ?_ NB1143_1175.out _; (with_reducible repeat (first | refine blk_drewN ?_ _ | refine blk_drew ?_ | refine blk_alloc ?_ _)); refine blk_far ?_ NB1143_1175.out _; (with_reducible repeat (first | refine blk_drewN ?_ _ | refine blk_drew ?_ | refine blk_alloc ?_ _)); exact BK1143.out) hb); have n10_ := Aside0.mk (blk_below (g := gb1159) (o := .cells #[.int .i64 t1156, .int .i64 t1157] 23 (0, 0)) (by (with_reducible repeat (first | refine blk_drewN ?_ _ | refine blk_drew ?_ | refine blk_alloc ?_ _)); refine blk_far ?_ NB1159_1175.out _; (with_reducible repeat (first | refine blk_drewN ?_ _ | refine blk_drew ?_ | refine blk_alloc ?_ _)); refine blk_far ?_ NB1159_1175.out _; (with_reducible repeat (first | refine blk_drewN ?_ _ | refine blk_drew ?_ | refine blk_alloc ?_ _)); exact BK1159.out) hb); have n12_ := Aside0.mk (blk_below (g := gb1167) (o := .cells #[.int .i64 t1164, .int .i64 t1165] 23 (0, 0)) (by (with_reducible repeat (first | refine blk_drewN ?_ _ | refine blk_drew ?_ | refine blk_alloc ?_ _)); refine blk_far ?_ NB1167_1175.out _; (with_reducible repeat (first | refine blk_drewN ?_ _ | refine blk_drew ?_ | refine blk_alloc ?_ _)); refine blk_far ?_ NB1167_1175.out _; (with_reducible repeat (first | refine blk_drewN ?_ _ | refine blk_drew ?_ | refine blk_alloc ?_ _)); exact BK1167.out) hb); have n13_ := Aside0.mk (blk_below (g := gb1171) (o := .cells #[.int .i64 t1168, .int .i64 t1169] 23 (0, 0)) (by (with_reducible repeat (first | refine blk_drewN ?_ _ | refine blk_drew ?_ | refine blk_alloc ?_ _)); refine blk_far ?_ NB1171_1175.out _; (with_reducible repeat (first | refine blk_drewN ?_ _ | refine blk_drew ?_ | refine blk_alloc ?_ _)); refine blk_far ?_ NB1171_1175.out _; (with_reducible repeat (first | refine blk_drewN ?_ _ | refine blk_drew ?_ | refine blk_alloc ?_ _)); exact BK1171.out) hb); have n14_ := Aside0.mk (blk_below (g := gb1175) (o := .cells #[.int .i64 t1172, .int .i64 t1173] 23 (0, 0)) (by (with_reducible repeat (first | refine blk_drewN ?_ _ | refine blk_drew ?_ | refine blk_alloc ?_ _)); refine blk_put (cs := #[.int .i64 t1172, .int .i64 0]) ?_ 1 _ rfl; (with_reducible repeat (first | refine blk_drewN ?_ _ | refine blk_drew ?_ | refine blk_alloc ?_ _)); refine blk_put (cs := #[.int .i64 0, .int .i64 0]) ?_ 0 _ rfl; (with_reducible repeat (first | refine blk_drewN ?_ _ | refine blk_drew ?_ | refine blk_alloc ?_ _)); exact BK1175.out) hb); have n15_ := Aside0.mk (below_step (q7_ HB.out GE1125.out GE1127.out GE1143.out GE1159.out GE1167.out GE1171.out GE1175.out) hb); clear BK1125; clear BK1127; clear BK1143; clear BK1159; clear BK1167; clear BK1171; clear BK1175; clear HB; have BK1125 := n0_; have BK1127 := n2_; have BK1143 := n6_; have BK1159 := n10_; have BK1167 := n12_; have BK1171 := n13_; have BK1175 := n14_; have HB := n15_; clear n0_ n2_ n6_ n10_ n12_ n13_ n14_ n15_; (try clear hb); (try clear hb2); (try clear hk); (try clear hi)))
                                    go_ret
                                    exact ⟨by first | rfl | (simp [errW_none, errW_some] <;> rfl) | (simp [*, errW_none, errW_some] <;> rfl), (q7_ HB.out GE1125.out GE1127.out GE1143.out GE1159.out GE1167.out GE1171.out GE1175.out)⟩
                                · rw [if_neg c328] at H
                                  have c328b0 : (t1166 == 0) = false := beq_eq_false_iff_ne.mpr c328
                                  have c328b1 : (t1166 != 0) = true := bne_iff_ne.mpr c328
                                  replace H := Option.bind_eq_some_iff.mp H
                                  obtain ⟨t1179, A6120, H⟩ := H
                                  replace H : (some t1179) = some r := H
                                  have A612 := Aside0.mk A6120
                                  clear A6120
                                  obtain rfl := Option.some.inj H
                                  go_wp2_with (first | (go_at_call 21; (with_reducible refine (merinolaw01_alive.calls  t1179 _ A612.out).mono ?_); rintro e w704 ⟨rfl, hb⟩; have n0_ := Aside0.mk (blk_below (g := gb1125) (o := .cells #[.int .i64 a0_0, .int .i64 a0_1] 23 (0, 0)) (by (with_reducible repeat (first | refine blk_drewN ?_ _ | refine blk_drew ?_ | refine blk_alloc ?_ _)); refine blk_far ?_ NB1125_1175.out _; (with_reducible repeat (first | refine blk_drewN ?_ _ | refine blk_drew ?_ | refine blk_alloc ?_ _)); refine blk_far ?_ NB1125_1175.out _; (with_reducible repeat (first | refine blk_drewN ?_ _ | refine blk_drew ?_ | refine blk_alloc ?_ _)); exact BK1125.out) hb); have n2_ := Aside0.mk (blk_below (g := gb1127) (o := .cells #[.int .i64 a2_0, .int .i64 a2_1] 23 (0, 0)) (by (with_reducible repeat (first | refine blk_drewN ?_ _ | refine blk_drew ?_ | refine blk_alloc ?_ _)); refine blk_far ?_ NB1127_1175.out _; (with_reducible repeat (first | refine blk_drewN ?_ _ | refine blk_drew ?_ | refine blk_alloc ?_ _)); refine blk_far ?_ NB1127_1175.out _; (with_reducible repeat (first | refine blk_drewN ?_ _ | refine blk_drew ?_ | refine blk_alloc ?_ _)); exact BK1127.out) hb); have n6_ := Aside0.mk (blk_below (g := gb1143) (o := .cells #[.int .i64 t1140, .int .i64 t1141] 23 (0, 0)) (by (with_reducible repeat (first | refine blk_drewN ?_ _ | refine blk_drew ?_ | refine blk_alloc ?_ _)); refine blk_far ?_ NB1143_1175.out _; (with_reducible repeat (first | refine blk_drewN ?_ _ | refine blk_drew ?_ | refine blk_alloc ?_ _)); refine blk_far ?_ NB1143_1175.out _; (with_reducible repeat (first | refine blk_drewN ?_ _ | refine blk_drew ?_ | refine blk_alloc ?_ _)); exact BK1143.out) hb); have n10_ := Aside0.mk (blk_below (g := gb1159) (o := .cells #[.int .i64 t1156, .int .i64 t1157] 23 (0, 0)) (by (with_reducible repeat (first | refine blk_drewN ?_ _ | refine blk_drew ?_ | refine blk_alloc ?_ _)); refine blk_far ?_ NB1159_1175.out _; (with_reducible repeat (first | refine blk_drewN ?_ _ | refine blk_drew ?_ | refine blk_alloc ?_ _)); refine blk_far ?_ NB1159_1175.out _; (with_reducible repeat (first | refine blk_drewN ?_ _ | refine blk_drew ?_ | refine blk_alloc ?_ _)); exact BK1159.out) hb); have n12_ := Aside0.mk (blk_below (g := gb1167) (o := .cells #[.int .i64 t1164, .int .i64 t1165] 23 (0, 0)) (by (with_reducible repeat (first | refine blk_drewN ?_ _ | refine blk_drew ?_ | refine blk_alloc ?_ _)); refine blk_far ?_ NB1167_1175.out _; (with_reducible repeat (first | refine blk_drewN ?_ _ | refine blk_drew ?_ | refine blk_alloc ?_ _)); refine blk_far ?_ NB1167_1175.out _; (with_reducible repeat (first | refine blk_drewN ?_ _ | refine blk_drew ?_ | refine blk_alloc ?_ _)); exact BK1167.out) hb); have n13_ := Aside0.mk (blk_below (g := gb1171) (o := .cells #[.int .i64 t1168, .int .i64 t1169] 23 (0, 0)) (by (with_reducible repeat (first | refine blk_drewN ?_ _ | refine blk_drew ?_ | refine blk_alloc ?_ _)); refine blk_far ?_ NB1171_1175.out _; (with_reducible repeat (first | refine blk_drewN ?_ _ | refine blk_drew ?_ | refine blk_alloc ?_ _)); refine blk_far ?_ NB1171_1175.out _; (with_reducible repeat (first | refine blk_drewN ?_ _ | refine blk_drew ?_ | refine blk_alloc ?_ _)); exact BK1171.out) hb); have n14_ := Aside0.mk (blk_below (g := gb1175) (o := .cells #[.int .i64 t1172, .int .i64 t1173] 23 (0, 0)) (by (with_reducible repeat (first | refine blk_drewN ?_ _ | refine blk_drew ?_ | refine blk_alloc ?_ _)); refine blk_put (cs := #[.int .i64 t1172, .int .i64 0]) ?_ 1 _ rfl; (with_reducible repeat (first | refine blk_drewN ?_ _ | refine blk_drew ?_ | refine blk_alloc ?_ _)); refine blk_put (cs := #[.int .i64 0, .int .i64 0]) ?_ 0 _ rfl; (with_reducible repeat (first | refine blk_drewN ?_ _ | refine blk_drew ?_ | refine blk_alloc ?_ _)); exact BK1175.out) hb); have n15_ := Aside0.mk (below_step (q7_ HB.out GE1125.out GE1127.out GE1143.out GE1159.out GE1167.out GE1171.out GE1175.out) hb); clear BK1125; clear BK1127; clear BK1143; clear BK1159; clear BK1167; clear BK1171; clear BK1175; clear HB; have BK1125 := n0_; have BK1127 := n2_; have BK1143 := n6_; have BK1159 := n10_; have BK1167 := n12_; have BK1171 := n13_; have BK1175 := n14_; have HB := n15_; clear n0_ n2_ n6_ n10_ n12_ n13_ n14_ n15_; (try clear hb); (try clear hb2); (try clear hk); (try clear hi)))
                                  go_ret
                                  exact ⟨by first | rfl | (simp [errW_none, errW_some] <;> rfl) | (simp [*, errW_none, errW_some] <;> rfl), (q7_ HB.out GE1125.out GE1127.out GE1143.out GE1159.out GE1167.out GE1171.out GE1175.out)⟩
end Go.Proofs.YtdjnneflpkllmaaDoor.Q
