/- Part 5 of the proof of NumDivides. -/
import Derived.Test.YtdjnneflpkllmaaDoorMNumDivides4
import Derived.Shelf.Strings.Repeat

namespace Go.Proofs.YtdjnneflpkllmaaDoor.Q
open Go.RowKit Go.Proofs.YtdjnneflpkllmaaDoorW.PrintWords Go.Proofs.YtdjnneflpkllmaaDoorW.PrintLast Go.Proofs.YtdjnneflpkllmaaDoorW.PrintMore
attribute [local go_sem] max2_int min2_int max_two min_two max_three min_three max_four min_four
set_option linter.unusedVariables false
set_option linter.unusedSimpArgs false
def num_gcd.l0 : Nat → Int → Int → Option (Int)
 | 0, _, _ => none
 | k + 1, x0, x1 => if x1 = 0 then (some x0) else (num_gcd.l0 k x1 (Int.tmod x0 x1))
def num_gcd.f (k : Nat) (a0 : Int) (a1 : Int) : Option (Int) := num_gcd.l0 k a0 a1
set_option maxHeartbeats 8000000 in
set_option maxRecDepth 100000 in
theorem num_gcd.calls (k : Nat) (a0 : Int) (a1 : Int) (r : Int) (w : World) (h : num_gcd.f k a0 a1 = some r) :
  Calls Tryd.prog 77 #[.int .u64 a0, .int .u64 a1] w fun e w' => e = .returned (.int .u64 r) ∧ Drawn0 w w' := by
 have H : (num_gcd.l0 k a0 a1) = some r := h
 clear h
 have H' := Aside0.mk H
 clear H
 go_enter Tryd.func77, Tryd.ntmps77
 go_wp2
 repeat (go_quiet (fail); try go_wp2)
 go_loopg [0, 1] k (fun kq v0 v1 w' => ∃ (x0_1 : Int) (x1_1 : Int), v0 = .int .u64 x0_1 ∧ v1 = .int .u64 x1_1 ∧ Aside0 (num_gcd.l0 kq x0_1 x1_1 = some r) ∧ Aside0 (kq ≤ k) ∧ Drawn0 w w')
 case atStart => exact ⟨(a0), (a1), (by first | rfl | (simp; done) | (simp [*]; done)), (by first | rfl | (simp; done) | (simp [*]; done)), H', ⟨Nat.le_refl _⟩, by repeat (first | exact Drawn0.refl _ | apply Drawn0.step)⟩
 case round =>
  clear H'
  try clear p2
  obtain ⟨x0_1, x1_1, rfl, rfl, HA, HK1, ⟨m1, rfl⟩⟩ := hrel
  cases gk with
  | zero => exact absurd HA.out (by simp [num_gcd.l0])
  | succ k1 =>
   have H := HA.out
   clear HA
   simp only [num_gcd.l0] at H
   by_cases c3 : x1_1 = 0
   ·rw [if_pos c3] at H
    have c3b0 : (x1_1 == 0) = true := beq_iff_eq.mpr c3
    have c3b1 : (x1_1 != 0) = false := bne_eq_false_iff_eq.mpr c3
    clear c3
    obtain rfl := Option.some.inj H
    go_wp2
    repeat (go_quiet (fail); try go_wp2)
    go_ret
    exact ⟨by first | rfl | (simp; done) | (simp [*]; done), by repeat (first | exact Drawn0.refl _ | apply Drawn0.step)⟩
   ·rw [if_neg c3] at H
    have c3b0 : (x1_1 == 0) = false := beq_eq_false_iff_ne.mpr c3
    have c3b1 : (x1_1 != 0) = true := bne_iff_ne.mpr c3
    have H' := Aside0.mk H
    clear H
    go_wp2
    repeat (go_quiet (fail); try go_wp2)
    go_roundg k1
    case measure => have := HK1.out; omega
    case rel => exact ⟨(x1_1), (Int.tmod x0_1 x1_1), (by first | rfl | (simp; done) | (simp [*]; done)), (by first | rfl | (simp; done) | (simp [*]; done)), H', ⟨by have := HK1.out; omega⟩, by repeat (first | exact Drawn0.refl _ | apply Drawn0.step)⟩
def num_Valid.f (k : Nat) (a0_0 : Int) (a0_1 : Int) : Option (Bool) := if a0_1 ≥ 1 then (if a0_1 ≤ 1048576 then (if a0_0 ≥ (-1099511627776) then (if a0_0 ≤ 1099511627776 then ((num_size.f a0_0).bind fun t116 => ((num_gcd.f k t116 (IntKind.u64.wrap (a0_1))).bind fun t117 => (some (t117 == 1)))) else (some false)) else (some false)) else (some false)) else (some false)
set_option maxHeartbeats 8000000 in
set_option maxRecDepth 100000 in
theorem num_Valid.calls (k : Nat) (a0_0 : Int) (a0_1 : Int) (r : Bool) (w : World) (h : num_Valid.f k a0_0 a0_1 = some r) :
  Calls Tryd.prog 26 #[.agg #[.int .i64 a0_0, .int .i64 a0_1]] w fun e w' => e = .returned (.bool r) ∧ Below w.heap.size w w' := by
 have hu23 := Tryd.underlying23
 have HB := Aside0.mk (Below.refl w.heap.size w)
 have H : (if a0_1 ≥ 1 then (if a0_1 ≤ 1048576 then (if a0_0 ≥ (-1099511627776) then (if a0_0 ≤ 1099511627776 then ((num_size.f a0_0).bind fun t116 => ((num_gcd.f k t116 (IntKind.u64.wrap (a0_1))).bind fun t117 => (some (t117 == 1)))) else (some false)) else (some false)) else (some false)) else (some false)) = some r := h
 clear h
 by_cases c2 : a0_1 ≥ 1
 ·rw [if_pos c2] at H
  have c2b0 : decide (1 ≤ a0_1) = true := decide_eq_true c2
  clear c2
  by_cases c3 : a0_1 ≤ 1048576
  ·rw [if_pos c3] at H
   have c3b0 : decide (a0_1 ≤ 1048576) = true := decide_eq_true c3
   clear c3
   by_cases c4 : a0_0 ≥ (-1099511627776)
   ·rw [if_pos c4] at H
    have c4b0 : decide ((-1099511627776) ≤ a0_0) = true := decide_eq_true c4
    clear c4
    by_cases c5 : a0_0 ≤ 1099511627776
    ·rw [if_pos c5] at H
     have c5b0 : decide (a0_0 ≤ 1099511627776) = true := decide_eq_true c5
     clear c5
     replace H := Option.bind_eq_some_iff.mp H
     obtain ⟨t116, A60, H⟩ := H
     replace H : ((num_gcd.f k t116 (IntKind.u64.wrap (a0_1))).bind fun t117 => (some (t117 == 1))) = some r := H
     have A6 := Aside0.mk A60
     clear A60
     replace H := Option.bind_eq_some_iff.mp H
     obtain ⟨t117, A70, H⟩ := H
     replace H : (some (t117 == 1)) = some r := H
     have A7 := Aside0.mk A70
     clear A70
     obtain rfl := Option.some.inj H
     go_enter Tryd.func26, Tryd.ntmps26
     go_wp2_with (first | ((with_reducible refine gate_dst (N := 1) rfl ?_); refine qx_ 1 #[.int .i64 a0_0, .int .i64 a0_1] 23 ?hr ?_; (case hr => first | (go_simp; done) | (go_simp; rfl)); intro gb115 hg w8 hbox hb; have n0_ := Aside0.mk (below_step (q0_ HB.out) hb); have n1_ := Aside0.mk (hbox); have n2_ := Aside0.mk (qs_ hg (q0_ HB.out) : w.heap.size ≤ gb115); have n3_ := n2_; clear HB; have HB := n0_; have BK115 := n1_; have GW115 := n2_; have GE115 := n3_; clear n0_ n1_ n2_ n3_; clear hb hbox hg; have hcz9_0 : w8.cell? ⟨gb115, 0, none⟩ = some (.int .i64 a0_0) := (blk_cell BK115.out 0).trans rfl; have hcz9_1 : w8.cell? ⟨gb115, 1, none⟩ = some (.int .i64 a0_1) := (blk_cell BK115.out 1).trans rfl; have hfz9_0 := blk_frozen BK115.out 0; have hfz9_1 := blk_frozen BK115.out 1) | (go_at_call 78; (with_reducible refine (num_size.calls a0_0 t116 _ A6.out).mono ?_); rintro e w' ⟨rfl, ⟨nd, rfl⟩⟩; (try first | exact ⟨rfl, _, World.drewN_drewN _ _ _⟩ | exact ⟨rfl, _, Eq.trans (World.drewN_drewN _ _ _) (congrArg (World.drewN _) (Nat.add_assoc _ _ _))⟩)) | (go_at_call 77; (with_reducible refine (num_gcd.calls k t116 (IntKind.u64.wrap (a0_1)) t117 _ A7.out).mono ?_); rintro e w' ⟨rfl, ⟨nd, rfl⟩⟩; (try first | exact ⟨rfl, _, World.drewN_drewN _ _ _⟩ | exact ⟨rfl, _, Eq.trans (World.drewN_drewN _ _ _) (congrArg (World.drewN _) (Nat.add_assoc _ _ _))⟩)))
     repeat (go_quiet (first | ((with_reducible refine gate_dst (N := 1) rfl ?_); refine qx_ 1 #[.int .i64 a0_0, .int .i64 a0_1] 23 ?hr ?_; (case hr => first | (go_simp; done) | (go_simp; rfl)); intro gb115 hg w8 hbox hb; have n0_ := Aside0.mk (below_step (q0_ HB.out) hb); have n1_ := Aside0.mk (hbox); have n2_ := Aside0.mk (qs_ hg (q0_ HB.out) : w.heap.size ≤ gb115); have n3_ := n2_; clear HB; have HB := n0_; have BK115 := n1_; have GW115 := n2_; have GE115 := n3_; clear n0_ n1_ n2_ n3_; clear hb hbox hg; have hcz9_0 : w8.cell? ⟨gb115, 0, none⟩ = some (.int .i64 a0_0) := (blk_cell BK115.out 0).trans rfl; have hcz9_1 : w8.cell? ⟨gb115, 1, none⟩ = some (.int .i64 a0_1) := (blk_cell BK115.out 1).trans rfl; have hfz9_0 := blk_frozen BK115.out 0; have hfz9_1 := blk_frozen BK115.out 1) | (go_at_call 78; (with_reducible refine (num_size.calls a0_0 t116 _ A6.out).mono ?_); rintro e w' ⟨rfl, ⟨nd, rfl⟩⟩; (try first | exact ⟨rfl, _, World.drewN_drewN _ _ _⟩ | exact ⟨rfl, _, Eq.trans (World.drewN_drewN _ _ _) (congrArg (World.drewN _) (Nat.add_assoc _ _ _))⟩)) | (go_at_call 77; (with_reducible refine (num_gcd.calls k t116 (IntKind.u64.wrap (a0_1)) t117 _ A7.out).mono ?_); rintro e w' ⟨rfl, ⟨nd, rfl⟩⟩; (try first | exact ⟨rfl, _, World.drewN_drewN _ _ _⟩ | exact ⟨rfl, _, Eq.trans (World.drewN_drewN _ _ _) (congrArg (World.drewN _) (Nat.add_assoc _ _ _))⟩))); try go_wp2_with (first | ((with_reducible refine gate_dst (N := 1) rfl ?_); refine qx_ 1 #[.int .i64 a0_0, .int .i64 a0_1] 23 ?hr ?_; (case hr => first | (go_simp; done) | (go_simp; rfl)); intro gb115 hg w8 hbox hb; have n0_ := Aside0.mk (below_step (q0_ HB.out) hb); have n1_ := Aside0.mk (hbox); have n2_ := Aside0.mk (qs_ hg (q0_ HB.out) : w.heap.size ≤ gb115); have n3_ := n2_; clear HB; have HB := n0_; have BK115 := n1_; have GW115 := n2_; have GE115 := n3_; clear n0_ n1_ n2_ n3_; clear hb hbox hg; have hcz9_0 : w8.cell? ⟨gb115, 0, none⟩ = some (.int .i64 a0_0) := (blk_cell BK115.out 0).trans rfl; have hcz9_1 : w8.cell? ⟨gb115, 1, none⟩ = some (.int .i64 a0_1) := (blk_cell BK115.out 1).trans rfl; have hfz9_0 := blk_frozen BK115.out 0; have hfz9_1 := blk_frozen BK115.out 1) | (go_at_call 78; (with_reducible refine (num_size.calls a0_0 t116 _ A6.out).mono ?_); rintro e w' ⟨rfl, ⟨nd, rfl⟩⟩; (try first | exact ⟨rfl, _, World.drewN_drewN _ _ _⟩ | exact ⟨rfl, _, Eq.trans (World.drewN_drewN _ _ _) (congrArg (World.drewN _) (Nat.add_assoc _ _ _))⟩)) | (go_at_call 77; (with_reducible refine (num_gcd.calls k t116 (IntKind.u64.wrap (a0_1)) t117 _ A7.out).mono ?_); rintro e w' ⟨rfl, ⟨nd, rfl⟩⟩; (try first | exact ⟨rfl, _, World.drewN_drewN _ _ _⟩ | exact ⟨rfl, _, Eq.trans (World.drewN_drewN _ _ _) (congrArg (World.drewN _) (Nat.add_assoc _ _ _))⟩))))
     go_ret
     exact ⟨by first | rfl | (simp [errW_none, errW_some] <;> rfl) | (simp [*, errW_none, errW_some] <;> rfl), (q1_ HB.out GE115.out)⟩
    ·rw [if_neg c5] at H
     have c5b0 : decide (a0_0 ≤ 1099511627776) = false := decide_eq_false c5
     clear c5
     obtain rfl := Option.some.inj H
     go_enter Tryd.func26, Tryd.ntmps26
     go_wp2_with (first | ((with_reducible refine gate_dst (N := 1) rfl ?_); refine qx_ 1 #[.int .i64 a0_0, .int .i64 a0_1] 23 ?hr ?_; (case hr => first | (go_simp; done) | (go_simp; rfl)); intro gb115 hg w10 hbox hb; have n0_ := Aside0.mk (below_step (q0_ HB.out) hb); have n1_ := Aside0.mk (hbox); have n2_ := Aside0.mk (qs_ hg (q0_ HB.out) : w.heap.size ≤ gb115); have n3_ := n2_; clear HB; have HB := n0_; have BK115 := n1_; have GW115 := n2_; have GE115 := n3_; clear n0_ n1_ n2_ n3_; clear hb hbox hg; have hcz11_0 : w10.cell? ⟨gb115, 0, none⟩ = some (.int .i64 a0_0) := (blk_cell BK115.out 0).trans rfl; have hcz11_1 : w10.cell? ⟨gb115, 1, none⟩ = some (.int .i64 a0_1) := (blk_cell BK115.out 1).trans rfl; have hfz11_0 := blk_frozen BK115.out 0; have hfz11_1 := blk_frozen BK115.out 1))
     repeat (go_quiet (first | ((with_reducible refine gate_dst (N := 1) rfl ?_); refine qx_ 1 #[.int .i64 a0_0, .int .i64 a0_1] 23 ?hr ?_; (case hr => first | (go_simp; done) | (go_simp; rfl)); intro gb115 hg w10 hbox hb; have n0_ := Aside0.mk (below_step (q0_ HB.out) hb); have n1_ := Aside0.mk (hbox); have n2_ := Aside0.mk (qs_ hg (q0_ HB.out) : w.heap.size ≤ gb115); have n3_ := n2_; clear HB; have HB := n0_; have BK115 := n1_; have GW115 := n2_; have GE115 := n3_; clear n0_ n1_ n2_ n3_; clear hb hbox hg; have hcz11_0 : w10.cell? ⟨gb115, 0, none⟩ = some (.int .i64 a0_0) := (blk_cell BK115.out 0).trans rfl; have hcz11_1 : w10.cell? ⟨gb115, 1, none⟩ = some (.int .i64 a0_1) := (blk_cell BK115.out 1).trans rfl; have hfz11_0 := blk_frozen BK115.out 0; have hfz11_1 := blk_frozen BK115.out 1)); try go_wp2_with (first | ((with_reducible refine gate_dst (N := 1) rfl ?_); refine qx_ 1 #[.int .i64 a0_0, .int .i64 a0_1] 23 ?hr ?_; (case hr => first | (go_simp; done) | (go_simp; rfl)); intro gb115 hg w10 hbox hb; have n0_ := Aside0.mk (below_step (q0_ HB.out) hb); have n1_ := Aside0.mk (hbox); have n2_ := Aside0.mk (qs_ hg (q0_ HB.out) : w.heap.size ≤ gb115); have n3_ := n2_; clear HB; have HB := n0_; have BK115 := n1_; have GW115 := n2_; have GE115 := n3_; clear n0_ n1_ n2_ n3_; clear hb hbox hg; have hcz11_0 : w10.cell? ⟨gb115, 0, none⟩ = some (.int .i64 a0_0) := (blk_cell BK115.out 0).trans rfl; have hcz11_1 : w10.cell? ⟨gb115, 1, none⟩ = some (.int .i64 a0_1) := (blk_cell BK115.out 1).trans rfl; have hfz11_0 := blk_frozen BK115.out 0; have hfz11_1 := blk_frozen BK115.out 1)))
     go_ret
     exact ⟨by first | rfl | (simp [errW_none, errW_some] <;> rfl) | (simp [*, errW_none, errW_some] <;> rfl), (q1_ HB.out GE115.out)⟩
   ·rw [if_neg c4] at H
    have c4b0 : decide ((-1099511627776) ≤ a0_0) = false := decide_eq_false c4
    clear c4
    obtain rfl := Option.some.inj H
    go_enter Tryd.func26, Tryd.ntmps26
    go_wp2_with (first | ((with_reducible refine gate_dst (N := 1) rfl ?_); refine qx_ 1 #[.int .i64 a0_0, .int .i64 a0_1] 23 ?hr ?_; (case hr => first | (go_simp; done) | (go_simp; rfl)); intro gb115 hg w12 hbox hb; have n0_ := Aside0.mk (below_step (q0_ HB.out) hb); have n1_ := Aside0.mk (hbox); have n2_ := Aside0.mk (qs_ hg (q0_ HB.out) : w.heap.size ≤ gb115); have n3_ := n2_; clear HB; have HB := n0_; have BK115 := n1_; have GW115 := n2_; have GE115 := n3_; clear n0_ n1_ n2_ n3_; clear hb hbox hg; have hcz13_0 : w12.cell? ⟨gb115, 0, none⟩ = some (.int .i64 a0_0) := (blk_cell BK115.out 0).trans rfl; have hcz13_1 : w12.cell? ⟨gb115, 1, none⟩ = some (.int .i64 a0_1) := (blk_cell BK115.out 1).trans rfl; have hfz13_0 := blk_frozen BK115.out 0; have hfz13_1 := blk_frozen BK115.out 1))
    repeat (go_quiet (first | ((with_reducible refine gate_dst (N := 1) rfl ?_); refine qx_ 1 #[.int .i64 a0_0, .int .i64 a0_1] 23 ?hr ?_; (case hr => first | (go_simp; done) | (go_simp; rfl)); intro gb115 hg w12 hbox hb; have n0_ := Aside0.mk (below_step (q0_ HB.out) hb); have n1_ := Aside0.mk (hbox); have n2_ := Aside0.mk (qs_ hg (q0_ HB.out) : w.heap.size ≤ gb115); have n3_ := n2_; clear HB; have HB := n0_; have BK115 := n1_; have GW115 := n2_; have GE115 := n3_; clear n0_ n1_ n2_ n3_; clear hb hbox hg; have hcz13_0 : w12.cell? ⟨gb115, 0, none⟩ = some (.int .i64 a0_0) := (blk_cell BK115.out 0).trans rfl; have hcz13_1 : w12.cell? ⟨gb115, 1, none⟩ = some (.int .i64 a0_1) := (blk_cell BK115.out 1).trans rfl; have hfz13_0 := blk_frozen BK115.out 0; have hfz13_1 := blk_frozen BK115.out 1)); try go_wp2_with (first | ((with_reducible refine gate_dst (N := 1) rfl ?_); refine qx_ 1 #[.int .i64 a0_0, .int .i64 a0_1] 23 ?hr ?_; (case hr => first | (go_simp; done) | (go_simp; rfl)); intro gb115 hg w12 hbox hb; have n0_ := Aside0.mk (below_step (q0_ HB.out) hb); have n1_ := Aside0.mk (hbox); have n2_ := Aside0.mk (qs_ hg (q0_ HB.out) : w.heap.size ≤ gb115); have n3_ := n2_; clear HB; have HB := n0_; have BK115 := n1_; have GW115 := n2_; have GE115 := n3_; clear n0_ n1_ n2_ n3_; clear hb hbox hg; have hcz13_0 : w12.cell? ⟨gb115, 0, none⟩ = some (.int .i64 a0_0) := (blk_cell BK115.out 0).trans rfl; have hcz13_1 : w12.cell? ⟨gb115, 1, none⟩ = some (.int .i64 a0_1) := (blk_cell BK115.out 1).trans rfl; have hfz13_0 := blk_frozen BK115.out 0; have hfz13_1 := blk_frozen BK115.out 1)))
    go_ret
    exact ⟨by first | rfl | (simp [errW_none, errW_some] <;> rfl) | (simp [*, errW_none, errW_some] <;> rfl), (q1_ HB.out GE115.out)⟩
  ·rw [if_neg c3] at H
   have c3b0 : decide (a0_1 ≤ 1048576) = false := decide_eq_false c3
   clear c3
   obtain rfl := Option.some.inj H
   go_enter Tryd.func26, Tryd.ntmps26
   go_wp2_with (first | ((with_reducible refine gate_dst (N := 1) rfl ?_); refine qx_ 1 #[.int .i64 a0_0, .int .i64 a0_1] 23 ?hr ?_; (case hr => first | (go_simp; done) | (go_simp; rfl)); intro gb115 hg w14 hbox hb; have n0_ := Aside0.mk (below_step (q0_ HB.out) hb); have n1_ := Aside0.mk (hbox); have n2_ := Aside0.mk (qs_ hg (q0_ HB.out) : w.heap.size ≤ gb115); have n3_ := n2_; clear HB; have HB := n0_; have BK115 := n1_; have GW115 := n2_; have GE115 := n3_; clear n0_ n1_ n2_ n3_; clear hb hbox hg; have hcz15_0 : w14.cell? ⟨gb115, 0, none⟩ = some (.int .i64 a0_0) := (blk_cell BK115.out 0).trans rfl; have hcz15_1 : w14.cell? ⟨gb115, 1, none⟩ = some (.int .i64 a0_1) := (blk_cell BK115.out 1).trans rfl; have hfz15_0 := blk_frozen BK115.out 0; have hfz15_1 := blk_frozen BK115.out 1))
   repeat (go_quiet (first | ((with_reducible refine gate_dst (N := 1) rfl ?_); refine qx_ 1 #[.int .i64 a0_0, .int .i64 a0_1] 23 ?hr ?_; (case hr => first | (go_simp; done) | (go_simp; rfl)); intro gb115 hg w14 hbox hb; have n0_ := Aside0.mk (below_step (q0_ HB.out) hb); have n1_ := Aside0.mk (hbox); have n2_ := Aside0.mk (qs_ hg (q0_ HB.out) : w.heap.size ≤ gb115); have n3_ := n2_; clear HB; have HB := n0_; have BK115 := n1_; have GW115 := n2_; have GE115 := n3_; clear n0_ n1_ n2_ n3_; clear hb hbox hg; have hcz15_0 : w14.cell? ⟨gb115, 0, none⟩ = some (.int .i64 a0_0) := (blk_cell BK115.out 0).trans rfl; have hcz15_1 : w14.cell? ⟨gb115, 1, none⟩ = some (.int .i64 a0_1) := (blk_cell BK115.out 1).trans rfl; have hfz15_0 := blk_frozen BK115.out 0; have hfz15_1 := blk_frozen BK115.out 1)); try go_wp2_with (first | ((with_reducible refine gate_dst (N := 1) rfl ?_); refine qx_ 1 #[.int .i64 a0_0, .int .i64 a0_1] 23 ?hr ?_; (case hr => first | (go_simp; done) | (go_simp; rfl)); intro gb115 hg w14 hbox hb; have n0_ := Aside0.mk (below_step (q0_ HB.out) hb); have n1_ := Aside0.mk (hbox); have n2_ := Aside0.mk (qs_ hg (q0_ HB.out) : w.heap.size ≤ gb115); have n3_ := n2_; clear HB; have HB := n0_; have BK115 := n1_; have GW115 := n2_; have GE115 := n3_; clear n0_ n1_ n2_ n3_; clear hb hbox hg; have hcz15_0 : w14.cell? ⟨gb115, 0, none⟩ = some (.int .i64 a0_0) := (blk_cell BK115.out 0).trans rfl; have hcz15_1 : w14.cell? ⟨gb115, 1, none⟩ = some (.int .i64 a0_1) := (blk_cell BK115.out 1).trans rfl; have hfz15_0 := blk_frozen BK115.out 0; have hfz15_1 := blk_frozen BK115.out 1)))
   go_ret
   exact ⟨by first | rfl | (simp [errW_none, errW_some] <;> rfl) | (simp [*, errW_none, errW_some] <;> rfl), (q1_ HB.out GE115.out)⟩
 ·rw [if_neg c2] at H
  have c2b0 : decide (1 ≤ a0_1) = false := decide_eq_false c2
  clear c2
  obtain rfl := Option.some.inj H
  go_enter Tryd.func26, Tryd.ntmps26
  go_wp2_with (first | ((with_reducible refine gate_dst (N := 1) rfl ?_); refine qx_ 1 #[.int .i64 a0_0, .int .i64 a0_1] 23 ?hr ?_; (case hr => first | (go_simp; done) | (go_simp; rfl)); intro gb115 hg w16 hbox hb; have n0_ := Aside0.mk (below_step (q0_ HB.out) hb); have n1_ := Aside0.mk (hbox); have n2_ := Aside0.mk (qs_ hg (q0_ HB.out) : w.heap.size ≤ gb115); have n3_ := n2_; clear HB; have HB := n0_; have BK115 := n1_; have GW115 := n2_; have GE115 := n3_; clear n0_ n1_ n2_ n3_; clear hb hbox hg; have hcz17_0 : w16.cell? ⟨gb115, 0, none⟩ = some (.int .i64 a0_0) := (blk_cell BK115.out 0).trans rfl; have hcz17_1 : w16.cell? ⟨gb115, 1, none⟩ = some (.int .i64 a0_1) := (blk_cell BK115.out 1).trans rfl; have hfz17_0 := blk_frozen BK115.out 0; have hfz17_1 := blk_frozen BK115.out 1))
  repeat (go_quiet (first | ((with_reducible refine gate_dst (N := 1) rfl ?_); refine qx_ 1 #[.int .i64 a0_0, .int .i64 a0_1] 23 ?hr ?_; (case hr => first | (go_simp; done) | (go_simp; rfl)); intro gb115 hg w16 hbox hb; have n0_ := Aside0.mk (below_step (q0_ HB.out) hb); have n1_ := Aside0.mk (hbox); have n2_ := Aside0.mk (qs_ hg (q0_ HB.out) : w.heap.size ≤ gb115); have n3_ := n2_; clear HB; have HB := n0_; have BK115 := n1_; have GW115 := n2_; have GE115 := n3_; clear n0_ n1_ n2_ n3_; clear hb hbox hg; have hcz17_0 : w16.cell? ⟨gb115, 0, none⟩ = some (.int .i64 a0_0) := (blk_cell BK115.out 0).trans rfl; have hcz17_1 : w16.cell? ⟨gb115, 1, none⟩ = some (.int .i64 a0_1) := (blk_cell BK115.out 1).trans rfl; have hfz17_0 := blk_frozen BK115.out 0; have hfz17_1 := blk_frozen BK115.out 1)); try go_wp2_with (first | ((with_reducible refine gate_dst (N := 1) rfl ?_); refine qx_ 1 #[.int .i64 a0_0, .int .i64 a0_1] 23 ?hr ?_; (case hr => first | (go_simp; done) | (go_simp; rfl)); intro gb115 hg w16 hbox hb; have n0_ := Aside0.mk (below_step (q0_ HB.out) hb); have n1_ := Aside0.mk (hbox); have n2_ := Aside0.mk (qs_ hg (q0_ HB.out) : w.heap.size ≤ gb115); have n3_ := n2_; clear HB; have HB := n0_; have BK115 := n1_; have GW115 := n2_; have GE115 := n3_; clear n0_ n1_ n2_ n3_; clear hb hbox hg; have hcz17_0 : w16.cell? ⟨gb115, 0, none⟩ = some (.int .i64 a0_0) := (blk_cell BK115.out 0).trans rfl; have hcz17_1 : w16.cell? ⟨gb115, 1, none⟩ = some (.int .i64 a0_1) := (blk_cell BK115.out 1).trans rfl; have hfz17_0 := blk_frozen BK115.out 0; have hfz17_1 := blk_frozen BK115.out 1)))
  go_ret
  exact ⟨by first | rfl | (simp [errW_none, errW_some] <;> rfl) | (simp [*, errW_none, errW_some] <;> rfl), (q1_ HB.out GE115.out)⟩
end Go.Proofs.YtdjnneflpkllmaaDoor.Q

namespace Go.Proofs.Num
open Go.RowKit Go.Proofs.YtdjnneflpkllmaaDoorW.PrintWords Go.Proofs.YtdjnneflpkllmaaDoor.Q
set_option linter.unusedVariables false
set_option linter.unusedSimpArgs false
def valid (n d : Int) : Prop := 1 ≤ d ∧ d ≤ 1048576 ∧ -1099511627776 ≤ n ∧ n ≤ 1099511627776 ∧ Nat.gcd n.natAbs d.natAbs = 1
instance (n d : Int) : Decidable (valid n d) := by unfold valid; infer_instance
end Go.Proofs.Num

namespace Go.Proofs.YtdjnneflpkllmaaDoor.Q
open Go.RowKit Go.Proofs.YtdjnneflpkllmaaDoorW.PrintWords Go.Proofs.YtdjnneflpkllmaaDoorW.PrintLast Go.Proofs.YtdjnneflpkllmaaDoorW.PrintMore
attribute [local go_sem] max2_int min2_int max_two min_two max_three min_three max_four min_four
set_option linter.unusedVariables false
set_option linter.unusedSimpArgs false
end Go.Proofs.YtdjnneflpkllmaaDoor.Q

namespace Go.Proofs.Num
open Go.RowKit Go.Proofs.YtdjnneflpkllmaaDoorW.PrintWords Go.Proofs.YtdjnneflpkllmaaDoorW.PrintMore Go.Proofs.YtdjnneflpkllmaaDoor.Q
set_option linter.unusedVariables false
set_option linter.unusedSimpArgs false
end Go.Proofs.Num

namespace Go.Proofs.YtdjnneflpkllmaaDoor.Q
open Go.RowKit Go.Proofs.YtdjnneflpkllmaaDoorW.PrintWords Go.Proofs.YtdjnneflpkllmaaDoorW.PrintLast Go.Proofs.YtdjnneflpkllmaaDoorW.PrintMore
attribute [local go_sem] max2_int min2_int max_two min_two max_three min_three max_four min_four
set_option linter.unusedVariables false
set_option linter.unusedSimpArgs false
def merinoref01_Rounded.j0 : Nat → Bool → Bool → List Int → Option (Bool × List Int)
 | 0, _, _, _ => none
 | k + 1, x10, x903000, x903001 => if x10 = true then ((merinoref01_Of.f k 1).bind fun bt911 => ((merinoref01_Plus.f k x903000 x903001 bt911.1 bt911.2).bind fun bt915 => (some (bt915.1, bt915.2)))) else (some (x903000, x903001))
def merinoref01_Rounded.core (k : Nat) (a0_0 : Bool) (l0_1 : List Int) (a1_0 : Bool) (l1_1 : List Int) (a2 : Int) : Option (Bool × List Int) := (merinoref01_Over.f k a0_0 l0_1 a1_0 l1_1).bind fun bt894 => ((merinoref01_Zero.f bt894.2.2.1 bt894.2.2.2).bind fun t904 => (if t904 = true then (some (bt894.1, bt894.2.1)) else ((merinoref01_Plus.f k bt894.2.2.1 bt894.2.2.2 bt894.2.2.1 bt894.2.2.2).bind fun bt905 => ((merinoref01_Compare.f k bt905.1 bt905.2 a1_0 l1_1).bind fun t909 => (if a2 = 1 then (merinoref01_Rounded.j0 k true bt894.1 bt894.2.1) else (if a2 = 2 then (merinoref01_Rounded.j0 k a0_0 bt894.1 bt894.2.1) else (if a2 = 3 then (merinoref01_Rounded.j0 k (decide (t909 ≥ 0)) bt894.1 bt894.2.1) else (if a2 = 4 then (if t909 > 0 then (merinoref01_Rounded.j0 k true bt894.1 bt894.2.1) else (if t909 = 0 then (if (bt894.2.1.length : Int) > 0 then (if 0 < (bt894.2.1.length : Int) then (merinoref01_Rounded.j0 k ((Int.tmod (rd bt894.2.1 0) 2) == 1) bt894.1 bt894.2.1) else (none)) else (merinoref01_Rounded.j0 k false bt894.1 bt894.2.1)) else (merinoref01_Rounded.j0 k false bt894.1 bt894.2.1))) else (merinoref01_Rounded.j0 k false bt894.1 bt894.2.1)))))))))
set_option maxHeartbeats 8000000 in
set_option maxRecDepth 100000 in
theorem merinoref01_Rounded.both (k : Nat) (a0_0 : Bool) (A0_1 : Option Addr) (c0_1 : Nat) (l0_1 : List Int) (a1_0 : Bool) (A1_1 : Option Addr) (c1_1 : Nat) (l1_1 : List Int) (a2 : Int) (n1 : Bool) (nl dl : List Int) (r1 : Bool) (r2 : List Int) (w : World) (hr0_1 : Kd.C (Kd.int .i64) w A0_1 l0_1.length l0_1) (hc0_1 : l0_1.length ≤ c0_1) (hr1_1 : Kd.C (Kd.int .i64) w A1_1 l1_1.length l1_1) (hc1_1 : l1_1.length ≤ c1_1)
  (hND : (a1_0 = false ∧ n1 = a0_0 ∧ nl = l0_1 ∧ dl = l1_1) ∨ (a1_0 = true ∧ merinoref01_Neg.f k a0_0 l0_1 = some (n1, nl) ∧ merinoref01_Neg.f k true l1_1 = some (false, dl))) (h : merinoref01_Rounded.core k n1 nl false dl a2 = some (r1, r2)) :
  Calls Tryd.prog 99 #[.agg #[.bool a0_0, .slice A0_1 l0_1.length c0_1], .agg #[.bool a1_0, .slice A1_1 l1_1.length c1_1], .int .i64 a2] w fun e w' => ∃ v1_ : Value, e = .returned (.agg #[.bool r1, v1_]) ∧ Kd.R (Kd.int .i64) 3 w' w.heap.size (fun _ => True) v1_ r2 ∧ Below w.heap.size w w' := by
 have hu31 := Tryd.underlying31
 have HR0_1 := Aside0.mk hr0_1
 have HC0_1 := Aside0.mk hc0_1
 clear hr0_1 hc0_1
 have HR1_1 := Aside0.mk hr1_1
 have HC1_1 := Aside0.mk hc1_1
 clear hr1_1 hc1_1
 have HB := Aside0.mk (Below.refl w.heap.size w)
 have HND := Aside0.mk hND
 have HH := Aside0.mk h
 clear hND h
 go_enter Tryd.func99, Tryd.ntmps99
 go_upto_if 12 with (first | ((with_reducible refine gate_dst (N := 3) rfl ?_); (try (refine gate_guard (by rfl) ?_; dsimp only)); refine qx_ 3 #[.bool a0_0, .slice A0_1 l0_1.length c0_1] 31 ?hr ?_; (case hr => first | (go_simp; done) | (go_simp; rfl)); intro gb891 hg w7 hbox hb; have n0_ := Aside0.mk (below_step (q0_ HB.out) hb); have n1_ := Aside0.mk (hbox); have n2_ := Aside0.mk (qs_ hg (q0_ HB.out) : w.heap.size ≤ gb891); have n3_ := n2_; clear HB; have HB := n0_; have BK891 := n1_; have GW891 := n2_; have GE891 := n3_; clear n0_ n1_ n2_ n3_; clear hb hbox hg) | ((with_reducible refine gate_dst (N := 4) rfl ?_); (try (refine gate_guard (by rfl) ?_; dsimp only)); refine qx_ 4 #[.bool a1_0, .slice A1_1 l1_1.length c1_1] 31 ?hr ?_; (case hr => first | (go_simp; done) | (go_simp; rfl)); intro gb892 hg w8 hbox hb; have n0_ := Aside0.mk (qk_ BK891.out hb); have n1_ := Aside0.mk (below_step (q1_ HB.out GE891.out) hb); have n2_ := Aside0.mk (hbox); have n3_ := Aside0.mk (qs_ hg (q1_ HB.out GE891.out) : w.heap.size ≤ gb892); have n4_ := n3_; have n5_ := Aside0.mk (qn_ hg BK891.out); have n6_ := Aside0.mk (Ne.symm (qn_ hg BK891.out)); clear BK891; clear HB; have BK891 := n0_; have HB := n1_; have BK892 := n2_; have GW892 := n3_; have GE892 := n4_; have NB891_892 := n5_; have NB892_891 := n6_; clear n0_ n1_ n2_ n3_ n4_ n5_ n6_; clear hb hbox hg) | ((with_reducible refine gate_dst (N := 6) rfl ?_); (try (refine gate_guard (by rfl) ?_; dsimp only)); refine qx_ 6 #[.bool false, .slice none 0 0] 31 ?hr ?_; (case hr => first | (go_simp; done) | (go_simp; rfl)); intro gb893 hg w9 hbox hb; have n0_ := Aside0.mk (qk_ BK891.out hb); have n1_ := Aside0.mk (qk_ BK892.out hb); have n2_ := Aside0.mk (below_step (q2_ HB.out GE891.out GE892.out) hb); have n3_ := Aside0.mk (hbox); have n4_ := Aside0.mk (qs_ hg (q2_ HB.out GE891.out GE892.out) : w.heap.size ≤ gb893); have n5_ := n4_; have n6_ := Aside0.mk (qn_ hg BK891.out); have n7_ := Aside0.mk (Ne.symm (qn_ hg BK891.out)); have n8_ := Aside0.mk (qn_ hg BK892.out); have n9_ := Aside0.mk (Ne.symm (qn_ hg BK892.out)); clear BK891; clear BK892; clear HB; have BK891 := n0_; have BK892 := n1_; have HB := n2_; have BK893 := n3_; have GW893 := n4_; have GE893 := n5_; have NB891_893 := n6_; have NB893_891 := n7_; have NB892_893 := n8_; have NB893_892 := n9_; clear n0_ n1_ n2_ n3_ n4_ n5_ n6_ n7_ n8_ n9_; clear hb hbox hg; have hnb10 := NB892_891.out; have hnc10 := NB891_892.out; have hnb11 := NB892_893.out; have hnc11 := NB893_892.out; have hcz12_0 : w9.cell? ⟨gb892, 0, none⟩ = some (.bool a1_0) := (blk_cell BK892.out 0).trans rfl; have hcz12_1 : w9.cell? ⟨gb892, 1, none⟩ = some (.slice A1_1 l1_1.length c1_1) := (blk_cell BK892.out 1).trans rfl; have hfz12_0 := blk_frozen BK892.out 0; have hfz12_1 := blk_frozen BK892.out 1; have hnb13 := NB891_893.out; have hnc13 := NB893_891.out; have hcz14_0 : w9.cell? ⟨gb891, 0, none⟩ = some (.bool a0_0) := (blk_cell BK891.out 0).trans rfl; have hcz14_1 : w9.cell? ⟨gb891, 1, none⟩ = some (.slice A0_1 l0_1.length c0_1) := (blk_cell BK891.out 1).trans rfl; have hfz14_0 := blk_frozen BK891.out 0; have hfz14_1 := blk_frozen BK891.out 1))
 go_cut [] (fun wc => ∃ (An : Option Addr) (cn : Nat) (Ad : Option Addr) (cd : Nat), Aside0 (wc.heap[gb891]? = some (.cells #[.bool n1, .slice An nl.length cn] 31 (0, 0))) ∧ Aside0 (wc.heap[gb892]? = some (.cells #[.bool false, .slice Ad dl.length cd] 31 (0, 0))) ∧ Aside0 (wc.heap[gb893]? = some (.cells #[.bool false, .slice none 0 0] 31 (0, 0))) ∧ Aside0 (Kd.C (Kd.int .i64) wc An nl.length nl) ∧ Aside0 (nl.length ≤ cn) ∧ Aside0 (Kd.C (Kd.int .i64) wc Ad dl.length dl) ∧ Aside0 (dl.length ≤ cd) ∧ Aside0 (Below w.heap.size w wc))
 case first =>
  cases a1_0 with
  | false =>
   have HX : Aside0 (n1 = a0_0 ∧ nl = l0_1 ∧ dl = l1_1) := ⟨by rcases HND.out with h | h; exact h.2; exact absurd h.1 (by decide)⟩
   clear HND
   go_wp2_with (fail)
   go_meet
   case rel =>
    obtain ⟨e1, e2, e3⟩ := HX.out
    subst e1 e2 e3
    exact ⟨A0_1, c0_1, A1_1, c1_1, ⟨by refine qb_ ?_; exact BK891.out⟩, ⟨by refine qb_ ?_; exact BK892.out⟩, ⟨by refine qb_ ?_; exact BK893.out⟩, ⟨Kd.C_below HR0_1.out HB.out⟩, ⟨HC0_1.out⟩, ⟨Kd.C_below HR1_1.out HB.out⟩, ⟨HC1_1.out⟩, ⟨HB.out⟩⟩
  | true =>
   have HX : Aside0 (merinoref01_Neg.f k a0_0 l0_1 = some (n1, nl) ∧ merinoref01_Neg.f k true l1_1 = some (false, dl)) := ⟨by rcases HND.out with h | h; exact absurd h.1 (by decide); exact h.2⟩
   clear HND
   go_upto_region 2 with (fail)
   obtain ⟨hN, hD⟩ := HX.out
   have HN := Aside0.mk hN
   have HD := Aside0.mk hD
   clear hN hD HX
   have kc : ∀ w', Below w9.heap.size w9 w' → (w'.cell? ⟨gb891, 0, none⟩ = some (.bool a0_0) ∧ w'.cell? ⟨gb891, 1, none⟩ = some (.slice A0_1 l0_1.length c0_1)) ∧ (w'.cell? ⟨gb892, 0, none⟩ = some (.bool true) ∧ w'.cell? ⟨gb892, 1, none⟩ = some (.slice A1_1 l1_1.length c1_1)) := fun w' hb => ⟨⟨(blk_cell (blk_below BK891.out hb) 0).trans rfl, (blk_cell (blk_below BK891.out hb) 1).trans rfl⟩, ⟨(blk_cell (blk_below BK892.out hb) 0).trans rfl, (blk_cell (blk_below BK892.out hb) 1).trans rfl⟩⟩
   have KC := Aside0.mk kc
   clear kc
   refine start_ (n := 6) (S := fun w' => Below w9.heap.size w9 w') (ds := [4, 5]) #[false, false, false, false, false, false] (by kernel_rfl) rfl rfl (Below.drew (Below.refl _ _)) (fun hHeld => ?_)
   refine take_ (i := 0) (N := some 13) (v := ?_) (a' := ?_) #[true, false, false, false, false, false] rfl rfl (by kernel_rfl) (fun _ _ _ h => h) (Or.inl ⟨by rfl, ?_⟩) hHeld ?_ ?_
   rotate_left
   ·rintro w' hS
    obtain ⟨⟨k0, k1⟩, k2, k3⟩ := KC.out w' hS
    go_simp
    with_reducible rfl
   rotate_left
   ·simp only [Act.put, List.setIfInBounds_toArray, List.set_cons_zero, List.set_cons_succ, i64_w, i32_w]
    rfl
   refine take_ (i := 2) (N := some 15) (v := ?_) (a' := ?_) #[true, false, true, false, false, false] rfl rfl (by kernel_rfl) (fun _ _ _ h => h) (Or.inl ⟨by rfl, ?_⟩) hHeld ?_ ?_
   rotate_left
   ·rintro w' hS
    obtain ⟨⟨k0, k1⟩, k2, k3⟩ := KC.out w' hS
    go_simp
    with_reducible rfl
   rotate_left
   ·simp only [Act.put, List.setIfInBounds_toArray, List.set_cons_zero, List.set_cons_succ, i64_w, i32_w]
    rfl
   refine one_ (i := 1) (N := some 14) #[true, true, true, false, false, false] rfl rfl (by kernel_rfl) (by decide) (fun K hK => ?_)
   refine goes_ Tryd.func75 (by kernel_rfl) rfl #[.agg #[.bool a0_0, .slice A0_1 l0_1.length c0_1]] (by rfl) rfl rfl (by (try simp only [List.map_toArray, List.map_cons, List.map_nil]); first | done | rfl) ?_
   refine (merinoref01_Neg.calls k a0_0 A0_1 c0_1 l0_1 n1 nl _ (Kd.C_below HR0_1.out (below_step HB.out hHeld)) HC0_1.out HN.out).mono ?_
   rintro e w1 ⟨vn, rfl, hn, hb1⟩
   refine ⟨_, rfl, ?_⟩
   have b1_ := Aside0.mk (Below.trans hHeld (hb1.mono hHeld.size))
   have VN := Aside0.mk hn
   clear hn hb1
   refine hK.out _ _ b1_.out (fun hHeld => ?_)
   clear hK K
   refine norm_ (a' := ?_) ?_ ?_
   rotate_left
   ·show Act.put _ (some 14) _ = _
    simp only [Act.put, List.setIfInBounds_toArray, List.set_cons_zero, List.set_cons_succ, i64_w, i32_w]
    rfl
   refine one_ (i := 3) (N := some 16) #[true, true, true, true, false, false] rfl rfl (by kernel_rfl) (by decide) (fun K hK => ?_)
   refine goes_ Tryd.func75 (by kernel_rfl) rfl #[.agg #[.bool true, .slice A1_1 l1_1.length c1_1]] (by rfl) rfl rfl (by (try simp only [List.map_toArray, List.map_cons, List.map_nil]); first | done | rfl) ?_
   refine (merinoref01_Neg.calls k true A1_1 c1_1 l1_1 false dl _ (Kd.C_below HR1_1.out (below_step HB.out hHeld)) HC1_1.out HD.out).mono ?_
   rintro e w2 ⟨vd, rfl, hd, hb2⟩
   refine ⟨_, rfl, ?_⟩
   have VN2 := Aside0.mk (Kd.R_below VN.out hb2)
   have b2_ := Aside0.mk (Below.trans b1_.out (hb2.mono b1_.out.size))
   have VD := Aside0.mk hd
   clear hd hb2
   refine hK.out _ _ b2_.out (fun hHeld => ?_)
   clear hK K
   refine norm_ (a' := ?_) ?_ ?_
   rotate_left
   ·show Act.put _ (some 16) _ = _
    simp only [Act.put, List.setIfInBounds_toArray, List.set_cons_zero, List.set_cons_succ, i64_w, i32_w]
    rfl
   obtain ⟨An, cn, en⟩ := Kd.R_slice VN2.out
   subst en
   obtain ⟨Ad, cd, ed⟩ := Kd.R_slice VD.out
   subst ed
   have Q4 := Aside0.mk (blk_below BK891.out b2_.out)
   have Q5 := Aside0.mk (blk_below BK892.out b2_.out)
   have Q6 := Aside0.mk (blk_below BK893.out b2_.out)
   have HB2 := Aside0.mk (below_step HB.out b2_.out)
   have z0 := (blk_cell Q4.out 0).trans rfl
   have z1 := (blk_cell Q4.out 1).trans rfl
   have z2 := blk_frozen Q4.out 0
   have z3 := blk_frozen Q4.out 1
   have z4 := (blk_cell Q5.out 0).trans rfl
   have z5 := (blk_cell Q5.out 1).trans rfl
   have z6 := blk_frozen Q5.out 0
   have z7 := blk_frozen Q5.out 1
   have nb := NB891_892.out
   have nc := NB892_891.out
   refine last_ (i := 4) (N := none) #[true, true, true, true, true, false] rfl rfl (by kernel_rfl) (by decide) (fun K hK => ?_)
   refine skip_ (w1 := ?_) (by rfl) rfl ?_ ?_
   rotate_left
   ·go_simp
    with_reducible rfl
   refine hK.out _ _ ?_
   clear hK K
   refine last_ (i := 5) (N := none) #[true, true, true, true, true, true] rfl rfl (by kernel_rfl) (by decide) (fun K hK => ?_)
   refine skip_ (w1 := ?_) (by rfl) rfl ?_ ?_
   rotate_left
   ·go_simp
    with_reducible rfl
   refine hK.out _ _ ?_
   clear hK K
   refine done_ (by kernel_rfl) ?_
   clear z0 z1 z2 z3 z4 z5 z6 z7
   go_wp2_with (fail)
   go_meet
   case rel =>
    exact ⟨An, cn, Ad, cd, ⟨blk_far (blk_far (blk_put (cs := #[.bool n1, .slice A0_1 l0_1.length c0_1]) (blk_put (cs := #[.bool a0_0, .slice A0_1 l0_1.length c0_1]) Q4.out 0 _ rfl) 1 _ rfl) nb _) nb _⟩, ⟨blk_put (cs := #[.bool false, .slice A1_1 l1_1.length c1_1]) (blk_put (cs := #[.bool true, .slice A1_1 l1_1.length c1_1]) (blk_far (blk_far Q5.out nc _) nc _) 0 _ rfl) 1 _ rfl⟩, ⟨blk_far (blk_far (blk_far (blk_far Q6.out NB893_891.out _) NB893_891.out _) NB893_892.out _) NB893_892.out _⟩, ⟨(Kd.V_reads' (Kd.V_far (Kd.V_far (Kd.V_far (Kd.V_far (Kd.V_mono (ok' := fun k => k ≠ gb891 ∧ k ≠ gb892) (Kd.R_V (base' := 0) (Kd.R_bound VN2.out)) (fun k hk => ⟨fun e_ => by have a1 : w9.heap.size ≤ k := hk.2.1; have a2 := blk_lt BK891.out; omega, fun e_ => by have a1 : w9.heap.size ≤ k := hk.2.1; have a2 := blk_lt BK892.out; omega⟩)) (fun k hk => hk.1) _) (fun k hk => hk.1) _) (fun k hk => hk.2) _) (fun k hk => hk.2) _)).2.2⟩, ⟨(Kd.R_reads' VN2.out).2.1⟩, ⟨(Kd.V_reads' (Kd.V_far (Kd.V_far (Kd.V_far (Kd.V_far (Kd.V_mono (ok' := fun k => k ≠ gb891 ∧ k ≠ gb892) (Kd.R_V (base' := 0) (Kd.R_bound VD.out)) (fun k hk => ⟨fun e_ => by have a1 : w1.heap.size ≤ k := hk.2.1; have a3 := b1_.out.size; have a2 := blk_lt BK891.out; omega, fun e_ => by have a1 : w1.heap.size ≤ k := hk.2.1; have a3 := b1_.out.size; have a2 := blk_lt BK892.out; omega⟩)) (fun k hk => hk.1) _) (fun k hk => hk.1) _) (fun k hk => hk.2) _) (fun k hk => hk.2) _)).2.2⟩, ⟨(Kd.R_reads' VD.out).2.1⟩, ⟨below_set (below_set (below_set (below_set HB2.out GE891.out) GE891.out) GE892.out) GE892.out⟩⟩
 case rest =>
  clear BK891 BK892 BK893 HB HND HR0_1 HC0_1 HR1_1 HC1_1
  obtain ⟨An, cn, Ad, cd, BK891, BK892, BK893, HR0_1, HC0_1, HR1_1, HC1_1, HBw⟩ := hcut
  obtain ⟨wb, hwb⟩ : ∃ wb, wb = wc := ⟨_, rfl⟩
  subst hwb
  have HB := Aside0.mk (Below.refl wb.heap.size wb)
  have hcq0 := (blk_cell BK891.out 0).trans rfl
  have hcq1 := (blk_cell BK891.out 1).trans rfl
  have hfq0 := blk_frozen BK891.out 0
  have hfq1 := blk_frozen BK891.out 1
  have hcq2 := (blk_cell BK892.out 0).trans rfl
  have hcq3 := (blk_cell BK892.out 1).trans rfl
  have hfq2 := blk_frozen BK892.out 0
  have hfq3 := blk_frozen BK892.out 1
  have h := HH.out
  clear HH
  have H : ((merinoref01_Over.f k n1 nl false dl).bind fun bt894 => ((merinoref01_Zero.f bt894.2.2.1 bt894.2.2.2).bind fun t904 => (if t904 = true then (some (bt894.1, bt894.2.1)) else ((merinoref01_Plus.f k bt894.2.2.1 bt894.2.2.2 bt894.2.2.1 bt894.2.2.2).bind fun bt905 => ((merinoref01_Compare.f k bt905.1 bt905.2 false dl).bind fun t909 => (if a2 = 1 then (merinoref01_Rounded.j0 k true bt894.1 bt894.2.1) else (if a2 = 2 then (merinoref01_Rounded.j0 k n1 bt894.1 bt894.2.1) else (if a2 = 3 then (merinoref01_Rounded.j0 k (decide (t909 ≥ 0)) bt894.1 bt894.2.1) else (if a2 = 4 then (if t909 > 0 then (merinoref01_Rounded.j0 k true bt894.1 bt894.2.1) else (if t909 = 0 then (if (bt894.2.1.length : Int) > 0 then (if 0 < (bt894.2.1.length : Int) then (merinoref01_Rounded.j0 k ((Int.tmod (rd bt894.2.1 0) 2) == 1) bt894.1 bt894.2.1) else (none)) else (merinoref01_Rounded.j0 k false bt894.1 bt894.2.1)) else (merinoref01_Rounded.j0 k false bt894.1 bt894.2.1))) else (merinoref01_Rounded.j0 k false bt894.1 bt894.2.1)))))))))) = some (r1, r2) := h
  clear h
  replace H := Option.bind_eq_some_iff.mp H
  obtain ⟨⟨t894, t895, t898, t899⟩, A40, H⟩ := H
  replace H : ((merinoref01_Zero.f t898 t899).bind fun t904 => (if t904 = true then (some (t894, t895)) else ((merinoref01_Plus.f k t898 t899 t898 t899).bind fun bt905 => ((merinoref01_Compare.f k bt905.1 bt905.2 false dl).bind fun t909 => (if a2 = 1 then (merinoref01_Rounded.j0 k true t894 t895) else (if a2 = 2 then (merinoref01_Rounded.j0 k n1 t894 t895) else (if a2 = 3 then (merinoref01_Rounded.j0 k (decide (t909 ≥ 0)) t894 t895) else (if a2 = 4 then (if t909 > 0 then (merinoref01_Rounded.j0 k true t894 t895) else (if t909 = 0 then (if (t895.length : Int) > 0 then (if 0 < (t895.length : Int) then (merinoref01_Rounded.j0 k ((Int.tmod (rd t895 0) 2) == 1) t894 t895) else (none)) else (merinoref01_Rounded.j0 k false t894 t895)) else (merinoref01_Rounded.j0 k false t894 t895))) else (merinoref01_Rounded.j0 k false t894 t895))))))))) = some (r1, r2) := H
  have A4 := Aside0.mk A40
  clear A40
  replace H := Option.bind_eq_some_iff.mp H
  obtain ⟨t904, A50, H⟩ := H
  replace H : (if t904 = true then (some (t894, t895)) else ((merinoref01_Plus.f k t898 t899 t898 t899).bind fun bt905 => ((merinoref01_Compare.f k bt905.1 bt905.2 false dl).bind fun t909 => (if a2 = 1 then (merinoref01_Rounded.j0 k true t894 t895) else (if a2 = 2 then (merinoref01_Rounded.j0 k n1 t894 t895) else (if a2 = 3 then (merinoref01_Rounded.j0 k (decide (t909 ≥ 0)) t894 t895) else (if a2 = 4 then (if t909 > 0 then (merinoref01_Rounded.j0 k true t894 t895) else (if t909 = 0 then (if (t895.length : Int) > 0 then (if 0 < (t895.length : Int) then (merinoref01_Rounded.j0 k ((Int.tmod (rd t895 0) 2) == 1) t894 t895) else (none)) else (merinoref01_Rounded.j0 k false t894 t895)) else (merinoref01_Rounded.j0 k false t894 t895))) else (merinoref01_Rounded.j0 k false t894 t895)))))))) = some (r1, r2) := H
  have A5 := Aside0.mk A50
  clear A50
  by_cases c6 : t904 = true
  ·subst c6
   have H1 : (some (t894, t895)) = some (r1, r2) := by rw [if_pos rfl] at H; exact H
   clear H
   have H := H1
   clear H1
   simp only [Option.some.injEq, Prod.mk.injEq] at H
   obtain ⟨rfl, rfl⟩ := H
   go_wp2_with (first | ((with_reducible refine gate_callee (f := 67) rfl ?_); refine goesL_ (some 20) rfl rfl Tryd.func67 (by kernel_rfl) rfl #[.agg #[.bool n1, .slice An nl.length cn], .agg #[.bool false, .slice Ad dl.length cd]] rfl qe_ ?_; (with_reducible refine (merinoref01_Over.calls k n1 _ _ nl false _ _ dl t894 t895 t898 t899 _ ?side1 ?side2 ?side3 ?side4 A4.out).mono ?_); (case side1 => exact qc_ (Kd.C_below HR0_1.out HB.out)); (case side2 => exact HC0_1.out); (case side3 => exact qc_ (Kd.C_below HR1_1.out HB.out)); (case side4 => exact HC1_1.out); rintro e w15 ⟨v896, v900, rfl, ho0, ho1, hb⟩; refine ⟨_, rfl, ?_⟩; have n0_ := Aside0.mk (Kd.R_lower ho0 (below_size (q3_ HB.out GE891.out GE892.out GE893.out))); have n1_ := Aside0.mk (Kd.R_lower ho1 (below_size (q3_ HB.out GE891.out GE892.out GE893.out))); have n2_ := Aside0.mk (qk_ BK891.out hb); have n3_ := Aside0.mk (qk_ BK892.out hb); have n4_ := Aside0.mk (qk_ BK893.out hb); have n5_ := Aside0.mk (below_step (q3_ HB.out GE891.out GE892.out GE893.out) hb); clear BK891; clear BK892; clear BK893; clear HB; have HO897 := n0_; have HO901 := n1_; have BK891 := n2_; have BK892 := n3_; have BK893 := n4_; have HB := n5_; clear n0_ n1_ n2_ n3_ n4_ n5_; (try clear hb); (try clear hb2); (try clear hk); (try clear hi); (try clear ho0); (try clear ho1)) | ((with_reducible refine gate_dst (N := 7) rfl ?_); (try (refine gate_guard (by rfl) ?_; dsimp only)); refine qx_ 7 #[.bool false, .slice none 0 0] 31 ?hr ?_; (case hr => first | (go_simp; done) | (go_simp; rfl)); intro gb902 hg w16 hbox hb; have n0_ := Aside0.mk (Kd.R_below (qr_ HO897.out) hb); have n1_ := Aside0.mk (Kd.R_below (qr_ HO901.out) hb); have n2_ := Aside0.mk (qk_ BK891.out hb); have n3_ := Aside0.mk (qk_ BK892.out hb); have n4_ := Aside0.mk (qk_ BK893.out hb); have n5_ := Aside0.mk (below_step (q3_ HB.out GE891.out GE892.out GE893.out) hb); have n6_ := Aside0.mk (hbox); have n7_ := Aside0.mk ((by rw [hg]; exact (below_size (q3_ HB.out GE891.out GE892.out GE893.out)) : wb.heap.size ≤ gb902)); have n8_ := Aside0.mk ((by rw [hg]; exact (below_size (q3_ HB.out GE891.out GE892.out GE893.out)) : wb.heap.size ≤ gb902)); have n9_ := Aside0.mk (qn_ hg BK891.out); have n10_ := Aside0.mk (Ne.symm (qn_ hg BK891.out)); have n11_ := Aside0.mk (qn_ hg BK892.out); have n12_ := Aside0.mk (Ne.symm (qn_ hg BK892.out)); have n13_ := Aside0.mk (qn_ hg BK893.out); have n14_ := Aside0.mk (Ne.symm (qn_ hg BK893.out)); clear HO897; clear HO901; clear BK891; clear BK892; clear BK893; clear HB; have HO897 := n0_; have HO901 := n1_; have BK891 := n2_; have BK892 := n3_; have BK893 := n4_; have HB := n5_; have BK902 := n6_; have GW902 := n7_; have GE902 := n8_; have NB891_902 := n9_; have NB902_891 := n10_; have NB892_902 := n11_; have NB902_892 := n12_; have NB893_902 := n13_; have NB902_893 := n14_; clear n0_ n1_ n2_ n3_ n4_ n5_ n6_ n7_ n8_ n9_ n10_ n11_ n12_ n13_ n14_; clear hb hbox hg) | ((with_reducible refine gate_dst (N := 8) rfl ?_); (try (refine gate_guard (by rfl) ?_; dsimp only)); refine qx_ 8 #[.bool false, .slice none 0 0] 31 ?hr ?_; (case hr => first | (go_simp; done) | (go_simp; rfl)); intro gb903 hg w17 hbox hb; have n0_ := Aside0.mk (Kd.R_below (qr_ HO897.out) hb); have n1_ := Aside0.mk (Kd.R_below (qr_ HO901.out) hb); have n2_ := Aside0.mk (qk_ BK891.out hb); have n3_ := Aside0.mk (qk_ BK892.out hb); have n4_ := Aside0.mk (qk_ BK893.out hb); have n5_ := Aside0.mk (qk_ BK902.out hb); have n6_ := Aside0.mk (below_step (q4_ HB.out GE891.out GE892.out GE893.out GE902.out) hb); have n7_ := Aside0.mk (hbox); have n8_ := Aside0.mk ((by rw [hg]; exact (below_size (q4_ HB.out GE891.out GE892.out GE893.out GE902.out)) : wb.heap.size ≤ gb903)); have n9_ := Aside0.mk ((by rw [hg]; exact (below_size (q4_ HB.out GE891.out GE892.out GE893.out GE902.out)) : wb.heap.size ≤ gb903)); have n10_ := Aside0.mk (qn_ hg BK891.out); have n11_ := Aside0.mk (Ne.symm (qn_ hg BK891.out)); have n12_ := Aside0.mk (qn_ hg BK892.out); have n13_ := Aside0.mk (Ne.symm (qn_ hg BK892.out)); have n14_ := Aside0.mk (qn_ hg BK893.out); have n15_ := Aside0.mk (Ne.symm (qn_ hg BK893.out)); have n16_ := Aside0.mk (qn_ hg BK902.out); have n17_ := Aside0.mk (Ne.symm (qn_ hg BK902.out)); clear HO897; clear HO901; clear BK891; clear BK892; clear BK893; clear BK902; clear HB; have HO897 := n0_; have HO901 := n1_; have BK891 := n2_; have BK892 := n3_; have BK893 := n4_; have BK902 := n5_; have HB := n6_; have BK903 := n7_; have GW903 := n8_; have GE903 := n9_; have NB891_903 := n10_; have NB903_891 := n11_; have NB892_903 := n12_; have NB903_892 := n13_; have NB893_903 := n14_; have NB903_893 := n15_; have NB902_903 := n16_; have NB903_902 := n17_; clear n0_ n1_ n2_ n3_ n4_ n5_ n6_ n7_ n8_ n9_ n10_ n11_ n12_ n13_ n14_ n15_ n16_ n17_; clear hb hbox hg; have hnb18 := NB902_891.out; have hnc18 := NB891_902.out; have hnb19 := NB902_892.out; have hnc19 := NB892_902.out; have hnb20 := NB902_893.out; have hnc20 := NB893_902.out; have hnb21 := NB902_903.out; have hnc21 := NB903_902.out; have hcz22_0 : w17.cell? ⟨gb902, 0, none⟩ = some (.bool false) := (blk_cell BK902.out 0).trans rfl; have hcz22_1 : w17.cell? ⟨gb902, 1, none⟩ = some (.slice none 0 0) := (blk_cell BK902.out 1).trans rfl; have hfz22_0 := blk_frozen BK902.out 0; have hfz22_1 := blk_frozen BK902.out 1; obtain ⟨Ao23, co23, eo23⟩ := Kd.R_slice HO897.out; subst eo23; have hnb24 := NB903_891.out; have hnc24 := NB891_903.out; have hnb25 := NB903_892.out; have hnc25 := NB892_903.out; have hnb26 := NB903_893.out; have hnc26 := NB893_903.out; have hcz27_0 : w17.cell? ⟨gb903, 0, none⟩ = some (.bool false) := (blk_cell BK903.out 0).trans rfl; have hcz27_1 : w17.cell? ⟨gb903, 1, none⟩ = some (.slice none 0 0) := (blk_cell BK903.out 1).trans rfl; have hfz27_0 := blk_frozen BK903.out 0; have hfz27_1 := blk_frozen BK903.out 1; obtain ⟨Ao28, co28, eo28⟩ := Kd.R_slice HO901.out; subst eo28) | ((with_reducible refine gate_callee (f := 69) rfl ?_); refine goesL_ (some 24) rfl rfl Tryd.func69 (by kernel_rfl) rfl #[.agg #[.bool t898, .slice Ao28 t899.length co28]] rfl qe_ ?_; (with_reducible refine (merinoref01_Zero.calls t898 _ _ t899 true _ ?side1 ?side2 A5.out).mono ?_); (case side1 => refine (Kd.R_reads' (e := 3) (base := wb.heap.size) (ok := fun k_ => some k_ ≠ (.slice Ao23 t895.length co23 : Value).ownBlock) (n := t899.length) (c := co28) ?_).2.2; exact (by refine qr_ ?_; exact (Kd.R_mono (Kd.R_mono (Kd.R_far (p := ⟨gb903, 1, none⟩) (Kd.R_far (p := ⟨gb903, 0, none⟩) (Kd.R_far (p := ⟨gb902, 1, none⟩) (Kd.R_far (p := ⟨gb902, 0, none⟩) (Kd.R_types (Kd.R_types HO901.out BK902.out (by decide)) BK903.out (by decide)) (fun _ hk => hk.1.2) (.bool t894)) (fun _ hk => hk.1.2) (.slice Ao23 t895.length co23)) (fun _ hk => hk.2) (.bool t898)) (fun _ hk => hk.2) (.slice Ao28 t899.length co28)) (fun _ h_ => h_.1)) (fun _ h_ => h_.1)))); (case side2 => exact (Kd.R_reads' HO901.out).2.1); rintro e w29 ⟨rfl, hb⟩; refine ⟨_, rfl, ?_⟩; have n0_ := Aside0.mk (Kd.R_below (by refine qr_ ?_; exact (Kd.R_mono (Kd.R_mono (Kd.R_far (p := ⟨gb903, 1, none⟩) (Kd.R_far (p := ⟨gb903, 0, none⟩) (Kd.R_far (p := ⟨gb902, 1, none⟩) (Kd.R_far (p := ⟨gb902, 0, none⟩) (Kd.R_types (Kd.R_types HO897.out BK902.out (by decide)) BK903.out (by decide)) (fun _ hk => hk.1.2) (.bool t894)) (fun _ hk => hk.1.2) (.slice Ao23 t895.length co23)) (fun _ hk => hk.2) (.bool t898)) (fun _ hk => hk.2) (.slice Ao28 t899.length co28)) (fun _ h_ => h_.1)) (fun _ h_ => h_.1))) hb); have n1_ := Aside0.mk (Kd.R_below (by refine qr_ ?_; exact (Kd.R_mono (Kd.R_mono (Kd.R_far (p := ⟨gb903, 1, none⟩) (Kd.R_far (p := ⟨gb903, 0, none⟩) (Kd.R_far (p := ⟨gb902, 1, none⟩) (Kd.R_far (p := ⟨gb902, 0, none⟩) (Kd.R_types (Kd.R_types HO901.out BK902.out (by decide)) BK903.out (by decide)) (fun _ hk => hk.1.2) (.bool t894)) (fun _ hk => hk.1.2) (.slice Ao23 t895.length co23)) (fun _ hk => hk.2) (.bool t898)) (fun _ hk => hk.2) (.slice Ao28 t899.length co28)) (fun _ h_ => h_.1)) (fun _ h_ => h_.1))) hb); have n2_ := Aside0.mk (blk_below (g := gb891) (o := .cells #[.bool n1, .slice An nl.length cn] 31 (0, 0)) (by refine qb_ ?_; refine blk_far ?_ NB891_903.out _; refine qb_ ?_; refine blk_far ?_ NB891_903.out _; refine qb_ ?_; refine blk_far ?_ NB891_902.out _; refine qb_ ?_; refine blk_far ?_ NB891_902.out _; refine qb_ ?_; exact BK891.out) hb); have n3_ := Aside0.mk (blk_below (g := gb892) (o := .cells #[.bool false, .slice Ad dl.length cd] 31 (0, 0)) (by refine qb_ ?_; refine blk_far ?_ NB892_903.out _; refine qb_ ?_; refine blk_far ?_ NB892_903.out _; refine qb_ ?_; refine blk_far ?_ NB892_902.out _; refine qb_ ?_; refine blk_far ?_ NB892_902.out _; refine qb_ ?_; exact BK892.out) hb); have n4_ := Aside0.mk (blk_below (g := gb893) (o := .cells #[.bool false, .slice none 0 0] 31 (0, 0)) (by refine qb_ ?_; refine blk_far ?_ NB893_903.out _; refine qb_ ?_; refine blk_far ?_ NB893_903.out _; refine qb_ ?_; refine blk_far ?_ NB893_902.out _; refine qb_ ?_; refine blk_far ?_ NB893_902.out _; refine qb_ ?_; exact BK893.out) hb); have n5_ := Aside0.mk (blk_below (g := gb902) (o := .cells #[.bool t894, .slice Ao23 t895.length co23] 31 (0, 0)) (by refine qb_ ?_; refine blk_far ?_ NB902_903.out _; refine qb_ ?_; refine blk_far ?_ NB902_903.out _; refine qb_ ?_; refine blk_put (cs := #[.bool t894, .slice none 0 0]) ?_ 1 _ rfl; refine qb_ ?_; refine blk_put (cs := #[.bool false, .slice none 0 0]) ?_ 0 _ rfl; refine qb_ ?_; exact BK902.out) hb); have n6_ := Aside0.mk (blk_below (g := gb903) (o := .cells #[.bool t898, .slice Ao28 t899.length co28] 31 (0, 0)) (by refine qb_ ?_; refine blk_put (cs := #[.bool t898, .slice none 0 0]) ?_ 1 _ rfl; refine qb_ ?_; refine blk_put (cs := #[.bool false, .slice none 0 0]) ?_ 0 _ rfl; refine qb_ ?_; refine blk_far ?_ NB903_902.out _; refine qb_ ?_; refine blk_far ?_ NB903_902.out _; refine qb_ ?_; exact BK903.out) hb); have n7_ := Aside0.mk (below_step (q5_ HB.out GE891.out GE892.out GE893.out GE902.out GE903.out) hb); clear HO897; clear HO901; clear BK891; clear BK892; clear BK893; clear BK902; clear BK903; clear HB; have HO897 := n0_; have HO901 := n1_; have BK891 := n2_; have BK892 := n3_; have BK893 := n4_; have BK902 := n5_; have BK903 := n6_; have HB := n7_; clear n0_ n1_ n2_ n3_ n4_ n5_ n6_ n7_; (try clear hb); (try clear hb2); (try clear hk); (try clear hi); have hcz30_0 : w29.cell? ⟨gb902, 0, none⟩ = some (.bool t894) := (blk_cell BK902.out 0).trans rfl; have hcz30_1 : w29.cell? ⟨gb902, 1, none⟩ = some (.slice Ao23 t895.length co23) := (blk_cell BK902.out 1).trans rfl; have hfz30_0 := blk_frozen BK902.out 0; have hfz30_1 := blk_frozen BK902.out 1; have hcz31_0 : w29.cell? ⟨gb893, 0, none⟩ = some (.bool false) := (blk_cell BK893.out 0).trans rfl; have hcz31_1 : w29.cell? ⟨gb893, 1, none⟩ = some (.slice none 0 0) := (blk_cell BK893.out 1).trans rfl; have hfz31_0 := blk_frozen BK893.out 0; have hfz31_1 := blk_frozen BK893.out 1))
   refine bodyPost_ret (results_cell_row rfl _ _ gb893 31 #[.bool t894, .slice Ao23 t895.length co23] (0, 0) _ rfl (by refine qb_ ?_; refine blk_put (cs := #[.bool t894, .slice none 0 0]) ?_ 1 _ rfl; refine qb_ ?_; refine blk_put (cs := #[.bool false, .slice none 0 0]) ?_ 0 _ rfl; refine qb_ ?_; exact BK893.out) Tryd.underlying31 rfl (by kernel_rfl)) rfl ?_
   exact ⟨_, by first | rfl | (simp [errW_none, errW_some] <;> rfl) | (simp [*, errW_none, errW_some] <;> rfl), by refine Kd.R_lower (base := wb.heap.size) ?_ HBw.out.size; refine qr_ ?_; exact Kd.R_mono (Kd.R_far (p := ⟨gb893, 1, none⟩) (Kd.R_far (p := ⟨gb893, 0, none⟩) (Kd.R_types HO897.out BK893.out (by decide)) (fun _ hk => hk.2) (.bool t894)) (fun _ hk => hk.2) (.slice Ao23 t895.length co23)) (fun _ hk => trivial), by repeat (first | (with_reducible first | exact below_step HBw.out HB.out | apply below_alloc | apply pw_below_drewN | apply below_drew1 | refine below_set ?_ GE893.out | refine below_set ?_ (Nat.le_trans HBw.out.size GE902.out) | refine below_set ?_ (Nat.le_trans HBw.out.size GE903.out)) | exact below_step HBw.out HB.out)⟩
  ·replace c6 := Bool.eq_false_iff.mpr c6
   subst c6
   have H1 : ((merinoref01_Plus.f k t898 t899 t898 t899).bind fun bt905 => ((merinoref01_Compare.f k bt905.1 bt905.2 false dl).bind fun t909 => (if a2 = 1 then (merinoref01_Rounded.j0 k true t894 t895) else (if a2 = 2 then (merinoref01_Rounded.j0 k n1 t894 t895) else (if a2 = 3 then (merinoref01_Rounded.j0 k (decide (t909 ≥ 0)) t894 t895) else (if a2 = 4 then (if t909 > 0 then (merinoref01_Rounded.j0 k true t894 t895) else (if t909 = 0 then (if (t895.length : Int) > 0 then (if 0 < (t895.length : Int) then (merinoref01_Rounded.j0 k ((Int.tmod (rd t895 0) 2) == 1) t894 t895) else (none)) else (merinoref01_Rounded.j0 k false t894 t895)) else (merinoref01_Rounded.j0 k false t894 t895))) else (merinoref01_Rounded.j0 k false t894 t895))))))) = some (r1, r2) := by rw [if_neg (show ¬ (false = true) by decide)] at H; exact H
   clear H
   have H := H1
   clear H1
   replace H := Option.bind_eq_some_iff.mp H
   obtain ⟨⟨t905, t906⟩, A320, H⟩ := H
   replace H : ((merinoref01_Compare.f k t905 t906 false dl).bind fun t909 => (if a2 = 1 then (merinoref01_Rounded.j0 k true t894 t895) else (if a2 = 2 then (merinoref01_Rounded.j0 k n1 t894 t895) else (if a2 = 3 then (merinoref01_Rounded.j0 k (decide (t909 ≥ 0)) t894 t895) else (if a2 = 4 then (if t909 > 0 then (merinoref01_Rounded.j0 k true t894 t895) else (if t909 = 0 then (if (t895.length : Int) > 0 then (if 0 < (t895.length : Int) then (merinoref01_Rounded.j0 k ((Int.tmod (rd t895 0) 2) == 1) t894 t895) else (none)) else (merinoref01_Rounded.j0 k false t894 t895)) else (merinoref01_Rounded.j0 k false t894 t895))) else (merinoref01_Rounded.j0 k false t894 t895)))))) = some (r1, r2) := H
   have A32 := Aside0.mk A320
   clear A320
   replace H := Option.bind_eq_some_iff.mp H
   obtain ⟨t909, A330, H⟩ := H
   replace H : (if a2 = 1 then (merinoref01_Rounded.j0 k true t894 t895) else (if a2 = 2 then (merinoref01_Rounded.j0 k n1 t894 t895) else (if a2 = 3 then (merinoref01_Rounded.j0 k (decide (t909 ≥ 0)) t894 t895) else (if a2 = 4 then (if t909 > 0 then (merinoref01_Rounded.j0 k true t894 t895) else (if t909 = 0 then (if (t895.length : Int) > 0 then (if 0 < (t895.length : Int) then (merinoref01_Rounded.j0 k ((Int.tmod (rd t895 0) 2) == 1) t894 t895) else (none)) else (merinoref01_Rounded.j0 k false t894 t895)) else (merinoref01_Rounded.j0 k false t894 t895))) else (merinoref01_Rounded.j0 k false t894 t895))))) = some (r1, r2) := H
   have A33 := Aside0.mk A330
   clear A330
   have HC34 := Aside0.mk H
   clear H
   try go_wp2_with (first | ((with_reducible refine gate_callee (f := 67) rfl ?_); refine goesL_ (some 20) rfl rfl Tryd.func67 (by kernel_rfl) rfl #[.agg #[.bool n1, .slice An nl.length cn], .agg #[.bool false, .slice Ad dl.length cd]] rfl qe_ ?_; (with_reducible refine (merinoref01_Over.calls k n1 _ _ nl false _ _ dl t894 t895 t898 t899 _ ?side1 ?side2 ?side3 ?side4 A4.out).mono ?_); (case side1 => exact qc_ (Kd.C_below HR0_1.out HB.out)); (case side2 => exact HC0_1.out); (case side3 => exact qc_ (Kd.C_below HR1_1.out HB.out)); (case side4 => exact HC1_1.out); rintro e w43 ⟨v896, v900, rfl, ho0, ho1, hb⟩; refine ⟨_, rfl, ?_⟩; have n0_ := Aside0.mk (Kd.R_lower ho0 (below_size (q3_ HB.out GE891.out GE892.out GE893.out))); have n1_ := Aside0.mk (Kd.R_lower ho1 (below_size (q3_ HB.out GE891.out GE892.out GE893.out))); have n2_ := Aside0.mk (qk_ BK891.out hb); have n3_ := Aside0.mk (qk_ BK892.out hb); have n4_ := Aside0.mk (qk_ BK893.out hb); have n5_ := Aside0.mk (below_step (q3_ HB.out GE891.out GE892.out GE893.out) hb); clear BK891; clear BK892; clear BK893; clear HB; have HO897 := n0_; have HO901 := n1_; have BK891 := n2_; have BK892 := n3_; have BK893 := n4_; have HB := n5_; clear n0_ n1_ n2_ n3_ n4_ n5_; (try clear hb); (try clear hb2); (try clear hk); (try clear hi); (try clear ho0); (try clear ho1)) | ((with_reducible refine gate_dst (N := 7) rfl ?_); (try (refine gate_guard (by rfl) ?_; dsimp only)); refine qx_ 7 #[.bool false, .slice none 0 0] 31 ?hr ?_; (case hr => first | (go_simp; done) | (go_simp; rfl)); intro gb902 hg w44 hbox hb; have n0_ := Aside0.mk (Kd.R_below (qr_ HO897.out) hb); have n1_ := Aside0.mk (Kd.R_below (qr_ HO901.out) hb); have n2_ := Aside0.mk (qk_ BK891.out hb); have n3_ := Aside0.mk (qk_ BK892.out hb); have n4_ := Aside0.mk (qk_ BK893.out hb); have n5_ := Aside0.mk (below_step (q3_ HB.out GE891.out GE892.out GE893.out) hb); have n6_ := Aside0.mk (hbox); have n7_ := Aside0.mk ((by rw [hg]; exact (below_size (q3_ HB.out GE891.out GE892.out GE893.out)) : wb.heap.size ≤ gb902)); have n8_ := Aside0.mk ((by rw [hg]; exact (below_size (q3_ HB.out GE891.out GE892.out GE893.out)) : wb.heap.size ≤ gb902)); have n9_ := Aside0.mk (qn_ hg BK891.out); have n10_ := Aside0.mk (Ne.symm (qn_ hg BK891.out)); have n11_ := Aside0.mk (qn_ hg BK892.out); have n12_ := Aside0.mk (Ne.symm (qn_ hg BK892.out)); have n13_ := Aside0.mk (qn_ hg BK893.out); have n14_ := Aside0.mk (Ne.symm (qn_ hg BK893.out)); clear HO897; clear HO901; clear BK891; clear BK892; clear BK893; clear HB; have HO897 := n0_; have HO901 := n1_; have BK891 := n2_; have BK892 := n3_; have BK893 := n4_; have HB := n5_; have BK902 := n6_; have GW902 := n7_; have GE902 := n8_; have NB891_902 := n9_; have NB902_891 := n10_; have NB892_902 := n11_; have NB902_892 := n12_; have NB893_902 := n13_; have NB902_893 := n14_; clear n0_ n1_ n2_ n3_ n4_ n5_ n6_ n7_ n8_ n9_ n10_ n11_ n12_ n13_ n14_; clear hb hbox hg) | ((with_reducible refine gate_dst (N := 8) rfl ?_); (try (refine gate_guard (by rfl) ?_; dsimp only)); refine qx_ 8 #[.bool false, .slice none 0 0] 31 ?hr ?_; (case hr => first | (go_simp; done) | (go_simp; rfl)); intro gb903 hg w45 hbox hb; have n0_ := Aside0.mk (Kd.R_below (qr_ HO897.out) hb); have n1_ := Aside0.mk (Kd.R_below (qr_ HO901.out) hb); have n2_ := Aside0.mk (qk_ BK891.out hb); have n3_ := Aside0.mk (qk_ BK892.out hb); have n4_ := Aside0.mk (qk_ BK893.out hb); have n5_ := Aside0.mk (qk_ BK902.out hb); have n6_ := Aside0.mk (below_step (q4_ HB.out GE891.out GE892.out GE893.out GE902.out) hb); have n7_ := Aside0.mk (hbox); have n8_ := Aside0.mk ((by rw [hg]; exact (below_size (q4_ HB.out GE891.out GE892.out GE893.out GE902.out)) : wb.heap.size ≤ gb903)); have n9_ := Aside0.mk ((by rw [hg]; exact (below_size (q4_ HB.out GE891.out GE892.out GE893.out GE902.out)) : wb.heap.size ≤ gb903)); have n10_ := Aside0.mk (qn_ hg BK891.out); have n11_ := Aside0.mk (Ne.symm (qn_ hg BK891.out)); have n12_ := Aside0.mk (qn_ hg BK892.out); have n13_ := Aside0.mk (Ne.symm (qn_ hg BK892.out)); have n14_ := Aside0.mk (qn_ hg BK893.out); have n15_ := Aside0.mk (Ne.symm (qn_ hg BK893.out)); have n16_ := Aside0.mk (qn_ hg BK902.out); have n17_ := Aside0.mk (Ne.symm (qn_ hg BK902.out)); clear HO897; clear HO901; clear BK891; clear BK892; clear BK893; clear BK902; clear HB; have HO897 := n0_; have HO901 := n1_; have BK891 := n2_; have BK892 := n3_; have BK893 := n4_; have BK902 := n5_; have HB := n6_; have BK903 := n7_; have GW903 := n8_; have GE903 := n9_; have NB891_903 := n10_; have NB903_891 := n11_; have NB892_903 := n12_; have NB903_892 := n13_; have NB893_903 := n14_; have NB903_893 := n15_; have NB902_903 := n16_; have NB903_902 := n17_; clear n0_ n1_ n2_ n3_ n4_ n5_ n6_ n7_ n8_ n9_ n10_ n11_ n12_ n13_ n14_ n15_ n16_ n17_; clear hb hbox hg; have hnb46 := NB902_891.out; have hnc46 := NB891_902.out; have hnb47 := NB902_892.out; have hnc47 := NB892_902.out; have hnb48 := NB902_893.out; have hnc48 := NB893_902.out; have hnb49 := NB902_903.out; have hnc49 := NB903_902.out; have hcz50_0 : w45.cell? ⟨gb902, 0, none⟩ = some (.bool false) := (blk_cell BK902.out 0).trans rfl; have hcz50_1 : w45.cell? ⟨gb902, 1, none⟩ = some (.slice none 0 0) := (blk_cell BK902.out 1).trans rfl; have hfz50_0 := blk_frozen BK902.out 0; have hfz50_1 := blk_frozen BK902.out 1; obtain ⟨Ao51, co51, eo51⟩ := Kd.R_slice HO897.out; subst eo51; have hnb52 := NB903_891.out; have hnc52 := NB891_903.out; have hnb53 := NB903_892.out; have hnc53 := NB892_903.out; have hnb54 := NB903_893.out; have hnc54 := NB893_903.out; have hcz55_0 : w45.cell? ⟨gb903, 0, none⟩ = some (.bool false) := (blk_cell BK903.out 0).trans rfl; have hcz55_1 : w45.cell? ⟨gb903, 1, none⟩ = some (.slice none 0 0) := (blk_cell BK903.out 1).trans rfl; have hfz55_0 := blk_frozen BK903.out 0; have hfz55_1 := blk_frozen BK903.out 1; obtain ⟨Ao56, co56, eo56⟩ := Kd.R_slice HO901.out; subst eo56) | ((with_reducible refine gate_callee (f := 69) rfl ?_); refine goesL_ (some 24) rfl rfl Tryd.func69 (by kernel_rfl) rfl #[.agg #[.bool t898, .slice Ao56 t899.length co56]] rfl qe_ ?_; (with_reducible refine (merinoref01_Zero.calls t898 _ _ t899 false _ ?side1 ?side2 A5.out).mono ?_); (case side1 => refine (Kd.R_reads' (e := 3) (base := wb.heap.size) (ok := fun k_ => some k_ ≠ (.slice Ao51 t895.length co51 : Value).ownBlock) (n := t899.length) (c := co56) ?_).2.2; exact (by refine qr_ ?_; exact (Kd.R_mono (Kd.R_mono (Kd.R_far (p := ⟨gb903, 1, none⟩) (Kd.R_far (p := ⟨gb903, 0, none⟩) (Kd.R_far (p := ⟨gb902, 1, none⟩) (Kd.R_far (p := ⟨gb902, 0, none⟩) (Kd.R_types (Kd.R_types HO901.out BK902.out (by decide)) BK903.out (by decide)) (fun _ hk => hk.1.2) (.bool t894)) (fun _ hk => hk.1.2) (.slice Ao51 t895.length co51)) (fun _ hk => hk.2) (.bool t898)) (fun _ hk => hk.2) (.slice Ao56 t899.length co56)) (fun _ h_ => h_.1)) (fun _ h_ => h_.1)))); (case side2 => exact (Kd.R_reads' HO901.out).2.1); rintro e w57 ⟨rfl, hb⟩; refine ⟨_, rfl, ?_⟩; have n0_ := Aside0.mk (Kd.R_below (by refine qr_ ?_; exact (Kd.R_mono (Kd.R_mono (Kd.R_far (p := ⟨gb903, 1, none⟩) (Kd.R_far (p := ⟨gb903, 0, none⟩) (Kd.R_far (p := ⟨gb902, 1, none⟩) (Kd.R_far (p := ⟨gb902, 0, none⟩) (Kd.R_types (Kd.R_types HO897.out BK902.out (by decide)) BK903.out (by decide)) (fun _ hk => hk.1.2) (.bool t894)) (fun _ hk => hk.1.2) (.slice Ao51 t895.length co51)) (fun _ hk => hk.2) (.bool t898)) (fun _ hk => hk.2) (.slice Ao56 t899.length co56)) (fun _ h_ => h_.1)) (fun _ h_ => h_.1))) hb); have n1_ := Aside0.mk (Kd.R_below (by refine qr_ ?_; exact (Kd.R_mono (Kd.R_mono (Kd.R_far (p := ⟨gb903, 1, none⟩) (Kd.R_far (p := ⟨gb903, 0, none⟩) (Kd.R_far (p := ⟨gb902, 1, none⟩) (Kd.R_far (p := ⟨gb902, 0, none⟩) (Kd.R_types (Kd.R_types HO901.out BK902.out (by decide)) BK903.out (by decide)) (fun _ hk => hk.1.2) (.bool t894)) (fun _ hk => hk.1.2) (.slice Ao51 t895.length co51)) (fun _ hk => hk.2) (.bool t898)) (fun _ hk => hk.2) (.slice Ao56 t899.length co56)) (fun _ h_ => h_.1)) (fun _ h_ => h_.1))) hb); have n2_ := Aside0.mk (blk_below (g := gb891) (o := .cells #[.bool n1, .slice An nl.length cn] 31 (0, 0)) (by refine qb_ ?_; refine blk_far ?_ NB891_903.out _; refine qb_ ?_; refine blk_far ?_ NB891_903.out _; refine qb_ ?_; refine blk_far ?_ NB891_902.out _; refine qb_ ?_; refine blk_far ?_ NB891_902.out _; refine qb_ ?_; exact BK891.out) hb); have n3_ := Aside0.mk (blk_below (g := gb892) (o := .cells #[.bool false, .slice Ad dl.length cd] 31 (0, 0)) (by refine qb_ ?_; refine blk_far ?_ NB892_903.out _; refine qb_ ?_; refine blk_far ?_ NB892_903.out _; refine qb_ ?_; refine blk_far ?_ NB892_902.out _; refine qb_ ?_; refine blk_far ?_ NB892_902.out _; refine qb_ ?_; exact BK892.out) hb); have n4_ := Aside0.mk (blk_below (g := gb893) (o := .cells #[.bool false, .slice none 0 0] 31 (0, 0)) (by refine qb_ ?_; refine blk_far ?_ NB893_903.out _; refine qb_ ?_; refine blk_far ?_ NB893_903.out _; refine qb_ ?_; refine blk_far ?_ NB893_902.out _; refine qb_ ?_; refine blk_far ?_ NB893_902.out _; refine qb_ ?_; exact BK893.out) hb); have n5_ := Aside0.mk (blk_below (g := gb902) (o := .cells #[.bool t894, .slice Ao51 t895.length co51] 31 (0, 0)) (by refine qb_ ?_; refine blk_far ?_ NB902_903.out _; refine qb_ ?_; refine blk_far ?_ NB902_903.out _; refine qb_ ?_; refine blk_put (cs := #[.bool t894, .slice none 0 0]) ?_ 1 _ rfl; refine qb_ ?_; refine blk_put (cs := #[.bool false, .slice none 0 0]) ?_ 0 _ rfl; refine qb_ ?_; exact BK902.out) hb); have n6_ := Aside0.mk (blk_below (g := gb903) (o := .cells #[.bool t898, .slice Ao56 t899.length co56] 31 (0, 0)) (by refine qb_ ?_; refine blk_put (cs := #[.bool t898, .slice none 0 0]) ?_ 1 _ rfl; refine qb_ ?_; refine blk_put (cs := #[.bool false, .slice none 0 0]) ?_ 0 _ rfl; refine qb_ ?_; refine blk_far ?_ NB903_902.out _; refine qb_ ?_; refine blk_far ?_ NB903_902.out _; refine qb_ ?_; exact BK903.out) hb); have n7_ := Aside0.mk (below_step (q5_ HB.out GE891.out GE892.out GE893.out GE902.out GE903.out) hb); clear HO897; clear HO901; clear BK891; clear BK892; clear BK893; clear BK902; clear BK903; clear HB; have HO897 := n0_; have HO901 := n1_; have BK891 := n2_; have BK892 := n3_; have BK893 := n4_; have BK902 := n5_; have BK903 := n6_; have HB := n7_; clear n0_ n1_ n2_ n3_ n4_ n5_ n6_ n7_; (try clear hb); (try clear hb2); (try clear hk); (try clear hi)))
   have n0_ := Aside0.mk (Kd.R_drew HO897.out)
   have n1_ := Aside0.mk (Kd.R_drew HO901.out)
   have n2_ := Aside0.mk (blk_drew BK891.out)
   have n3_ := Aside0.mk (blk_drew BK892.out)
   have n4_ := Aside0.mk (blk_drew BK893.out)
   have n5_ := Aside0.mk (blk_drew BK902.out)
   have n6_ := Aside0.mk (blk_drew BK903.out)
   have n7_ := Aside0.mk (below_drew1 HB.out)
   clear HO897
   clear HO901
   clear BK891
   clear BK892
   clear BK893
   clear BK902
   clear BK903
   clear HB
   have HO897 := n0_
   have HO901 := n1_
   have BK891 := n2_
   have BK892 := n3_
   have BK893 := n4_
   have BK902 := n5_
   have BK903 := n6_
   have HB := n7_
   clear n0_ n1_ n2_ n3_ n4_ n5_ n6_ n7_
   refine start_ (n := 6) (S := fun w' => w'.cell? ⟨gb903, 0, none⟩ = some (.bool t898) ∧ w'.cell? ⟨gb903, 1, none⟩ = some (.slice Ao56 t899.length co56) ∧ w'.cell? ⟨gb892, 0, none⟩ = some (.bool false) ∧ w'.cell? ⟨gb892, 1, none⟩ = some (.slice Ad dl.length cd)) (ds := []) #[false, false, false, false, false, false] (by kernel_rfl) rfl rfl ⟨(blk_cell BK903.out 0).trans rfl, (blk_cell BK903.out 1).trans rfl, (blk_cell BK892.out 0).trans rfl, (blk_cell BK892.out 1).trans rfl⟩ (fun hHeld => ?_)
   generalize w57.drew = w58 at HO897 HO901 BK891 BK892 BK893 BK902 BK903 HB hHeld ⊢
   refine take_ (i := 0) (N := some 26) (v := ?_) (a' := ?_) #[true, false, false, false, false, false] rfl rfl (by kernel_rfl) (fun _ _ _ h => h) (Or.inl ⟨by rfl, ?_⟩) hHeld ?_ ?_
   rotate_left
   ·rintro w' ⟨s0, s1, s2, s3⟩
    go_simp
    with_reducible rfl
   rotate_left
   ·simp only [Act.put, List.setIfInBounds_toArray, List.set_cons_zero, List.set_cons_succ, i64_w, i32_w]
    rfl
   refine take_ (i := 1) (N := some 27) (v := ?_) (a' := ?_) #[true, true, false, false, false, false] rfl rfl (by kernel_rfl) (fun _ _ _ h => h) (Or.inl ⟨by rfl, ?_⟩) hHeld ?_ ?_
   rotate_left
   ·rintro w' ⟨s0, s1, s2, s3⟩
    go_simp
    with_reducible rfl
   rotate_left
   ·simp only [Act.put, List.setIfInBounds_toArray, List.set_cons_zero, List.set_cons_succ, i64_w, i32_w]
    rfl
   refine take_ (i := 3) (N := some 29) (v := ?_) (a' := ?_) #[true, true, false, true, false, false] rfl rfl (by kernel_rfl) (fun _ _ _ h => h) (Or.inl ⟨by rfl, ?_⟩) hHeld ?_ ?_
   rotate_left
   ·rintro w' ⟨s0, s1, s2, s3⟩
    go_simp
    with_reducible rfl
   rotate_left
   ·simp only [Act.put, List.setIfInBounds_toArray, List.set_cons_zero, List.set_cons_succ, i64_w, i32_w]
    rfl
   refine one_ (i := 2) (N := some 28) #[true, true, true, true, false, false] rfl rfl (by kernel_rfl) (by decide) (fun K hK => ?_)
   refine goes_ Tryd.func84 (by kernel_rfl) rfl #[.agg #[.bool t898, .slice Ao56 t899.length co56], .agg #[.bool t898, .slice Ao56 t899.length co56]] (by rfl) rfl rfl qe_ ?_
   with_reducible refine (merinoref01_Plus.calls k t898 _ _ t899 t898 _ _ t899 t905 t906 _ ?side1 ?side2 ?side3 ?side4 A32.out).mono ?_
   (case side1 => exact qc_ (Kd.R_reads' HO901.out).2.2)
   (case side2 => exact (Kd.R_reads' HO901.out).2.1)
   (case side3 => exact qc_ (Kd.R_reads' HO901.out).2.2)
   (case side4 => exact (Kd.R_reads' HO901.out).2.1)
   rintro e w59 ⟨v907, rfl, ho0, hb⟩
   refine ⟨_, rfl, ?_⟩
   have n0_ := Aside0.mk (Kd.R_elder' (qr_ HO897.out) (Kd.R_base ho0) hb)
   have n1_ := Aside0.mk (Kd.R_elder' (qr_ HO901.out) (Kd.R_base ho0) hb)
   have n2_ := Aside0.mk (Kd.R_lower (Kd.R_new' (Kd.R_new' ho0 (Kd.R_lt (qr_ HO897.out))) (Kd.R_lt (qr_ HO901.out))) (below_size (q5_ HB.out GE891.out GE892.out GE893.out GE902.out GE903.out)))
   have n3_ := Aside0.mk (qk_ BK891.out hb)
   have n4_ := Aside0.mk (qk_ BK892.out hb)
   have n5_ := Aside0.mk (qk_ BK893.out hb)
   have n6_ := Aside0.mk (qk_ BK902.out hb)
   have n7_ := Aside0.mk (qk_ BK903.out hb)
   have n8_ := Aside0.mk (below_step (q5_ HB.out GE891.out GE892.out GE893.out GE902.out GE903.out) hb)
   clear HO897
   clear HO901
   clear BK891
   clear BK892
   clear BK893
   clear BK902
   clear BK903
   clear HB
   have HO897 := n0_
   have HO901 := n1_
   have HO908 := n2_
   have BK891 := n3_
   have BK892 := n4_
   have BK893 := n5_
   have BK902 := n6_
   have BK903 := n7_
   have HB := n8_
   clear n0_ n1_ n2_ n3_ n4_ n5_ n6_ n7_ n8_
   (try clear hb)
   (try clear hb2)
   (try clear hk)
   (try clear hi)
   (try clear ho0)
   obtain ⟨Ao60, co60, eo60⟩ := Kd.R_slice HO908.out
   (first | subst eo60 | (injection eo60 with f1_ f2_ f3_; have f4_ := f1_.symm; have f5_ := f3_.symm; clear f1_ f2_ f3_; subst f4_; subst f5_))
   refine hK.out _ _ ⟨(blk_cell BK903.out 0).trans rfl, (blk_cell BK903.out 1).trans rfl, (blk_cell BK892.out 0).trans rfl, (blk_cell BK892.out 1).trans rfl⟩ (fun hHeld => ?_)
   clear hK K
   refine norm_ (a' := ?_) ?_ ?_
   rotate_left
   ·show Act.put _ (some 28) _ = _
    simp only [Act.put, List.setIfInBounds_toArray, List.set_cons_zero, List.set_cons_succ, i64_w, i32_w]
    rfl
   refine one_ (i := 4) (N := some 30) #[true, true, true, true, true, false] rfl rfl (by kernel_rfl) (by decide) (fun K hK => ?_)
   refine goes_ Tryd.func25 (by kernel_rfl) rfl #[.agg #[.bool t905, .slice Ao60 t906.length co60], .agg #[.bool false, .slice Ad dl.length cd]] (by rfl) rfl rfl qe_ ?_
   with_reducible refine (merinoref01_Compare.calls k t905 _ _ t906 false _ _ dl t909 _ ?side1 ?side2 ?side3 ?side4 A33.out).mono ?_
   (case side1 => exact qc_ (Kd.R_reads' HO908.out).2.2)
   (case side2 => exact (Kd.R_reads' HO908.out).2.1)
   (case side3 => exact qc_ (Kd.C_below HR1_1.out HB.out))
   (case side4 => exact HC1_1.out)
   rintro e w61 ⟨rfl, hb⟩
   refine ⟨_, rfl, ?_⟩
   have n0_ := Aside0.mk (Kd.R_below (qr_ HO897.out) hb)
   have n1_ := Aside0.mk (Kd.R_below (qr_ HO901.out) hb)
   have n2_ := Aside0.mk (Kd.R_below (qr_ HO908.out) hb)
   have n3_ := Aside0.mk (qk_ BK891.out hb)
   have n4_ := Aside0.mk (qk_ BK892.out hb)
   have n5_ := Aside0.mk (qk_ BK893.out hb)
   have n6_ := Aside0.mk (qk_ BK902.out hb)
   have n7_ := Aside0.mk (qk_ BK903.out hb)
   have n8_ := Aside0.mk (below_step (q5_ HB.out GE891.out GE892.out GE893.out GE902.out GE903.out) hb)
   clear HO897
   clear HO901
   clear HO908
   clear BK891
   clear BK892
   clear BK893
   clear BK902
   clear BK903
   clear HB
   have HO897 := n0_
   have HO901 := n1_
   have HO908 := n2_
   have BK891 := n3_
   have BK892 := n4_
   have BK893 := n5_
   have BK902 := n6_
   have BK903 := n7_
   have HB := n8_
   clear n0_ n1_ n2_ n3_ n4_ n5_ n6_ n7_ n8_
   (try clear hb)
   (try clear hb2)
   (try clear hk)
   (try clear hi)
   refine hK.out _ _ ⟨(blk_cell BK903.out 0).trans rfl, (blk_cell BK903.out 1).trans rfl, (blk_cell BK892.out 0).trans rfl, (blk_cell BK892.out 1).trans rfl⟩ (fun hHeld => ?_)
   clear hK K
   refine norm_ (a' := ?_) ?_ ?_
   rotate_left
   ·show Act.put _ (some 30) _ = _
    simp only [Act.put, List.setIfInBounds_toArray, List.set_cons_zero, List.set_cons_succ, i64_w, i32_w]
    rfl
   refine pure_ (i := 5) (N := some 9) (v := ?_) (a' := ?_) #[true, true, true, true, true, true] rfl rfl (by kernel_rfl) (fun _ _ _ h => h) (Or.inl ⟨by rfl, ?_⟩) ?_ ?_
   rotate_left
   ·intro w'
    go_simp
    with_reducible rfl
   rotate_left
   ·simp only [Act.put, List.setIfInBounds_toArray, List.set_cons_zero, List.set_cons_succ, i64_w, i32_w]
    rfl
   refine done_ (by kernel_rfl) ?_
   go_upto_block 0 with (fail)
   go_cut [10] (fun v10 wc => ∃ (kq : Nat) (x10_33 : Bool), v10 = .bool x10_33 ∧ Aside0 (merinoref01_Rounded.j0 kq x10_33 t894 t895 = some (r1, r2)) ∧ Aside0 (kq ≤ k) ∧ Aside0 (Kd.R (Kd.int .i64) 3 wc wb.heap.size (fun k_ => some k_ ≠ ((.slice Ao56 t899.length co56) : Value).ownBlock) (.slice Ao51 t895.length co51) t895) ∧ Aside0 (Kd.R (Kd.int .i64) 3 wc wb.heap.size (fun k_ => some k_ ≠ ((.slice Ao51 t895.length co51) : Value).ownBlock) (.slice Ao56 t899.length co56) t899) ∧ Aside0 (wc.heap[gb891]? = some (.cells #[.bool n1, (.slice An nl.length cn)] 31 (0, 0))) ∧ Aside0 (wc.heap[gb892]? = some (.cells #[.bool false, (.slice Ad dl.length cd)] 31 (0, 0))) ∧ Aside0 (wc.heap[gb893]? = some (.cells #[.bool false, (.slice none 0 0)] 31 (0, 0))) ∧ Aside0 (wc.heap[gb902]? = some (.cells #[.bool t894, (.slice Ao51 t895.length co51)] 31 (0, 0))) ∧ Aside0 (wc.heap[gb903]? = some (.cells #[.bool t898, (.slice Ao56 t899.length co56)] 31 (0, 0))) ∧ Aside0 (Below wb.heap.size wb wc))
   case first =>
    have H := HC34.out
    clear HC34
    by_cases c62 : a2 = 1
    ·rw [if_pos c62] at H
     have c62b0 : (a2 == 1) = true := beq_iff_eq.mpr c62
     have c62b1 : (a2 != 1) = false := bne_eq_false_iff_eq.mpr c62
     clear c62
     (first | rw [c62b0] | (simp only [i64_w, i32_w]; rw [c62b0]) | skip)
     have H' := Aside0.mk H
     clear H
     go_wp2
     go_meet
     case rel => exact ⟨_, (true), (by first | rfl | (simp; done) | (simp [*]; done)), H', ⟨by first | omega | exact Nat.le_refl _⟩, ⟨by refine qr_ ?_; exact Kd.R_mono HO897.out (fun _ hk => hk.1)⟩, ⟨by refine qr_ ?_; exact Kd.R_mono HO901.out (fun _ hk => hk.1)⟩, ⟨by refine qb_ ?_; exact BK891.out⟩, ⟨by refine qb_ ?_; exact BK892.out⟩, ⟨by refine qb_ ?_; exact BK893.out⟩, ⟨by refine qb_ ?_; exact BK902.out⟩, ⟨by refine qb_ ?_; exact BK903.out⟩, ⟨(q5_ HB.out GE891.out GE892.out GE893.out GE902.out GE903.out)⟩⟩
    ·rw [if_neg c62] at H
     have c62b0 : (a2 == 1) = false := beq_eq_false_iff_ne.mpr c62
     have c62b1 : (a2 != 1) = true := bne_iff_ne.mpr c62
     (first | rw [c62b0] | (simp only [i64_w, i32_w]; rw [c62b0]) | skip)
     by_cases c63 : a2 = 2
     ·rw [if_pos c63] at H
      have c63b0 : (a2 == 2) = true := beq_iff_eq.mpr c63
      have c63b1 : (a2 != 2) = false := bne_eq_false_iff_eq.mpr c63
      clear c63
      have H' := Aside0.mk H
      clear H
      have hnb64 := NB891_892.out
      have hnc64 := NB892_891.out
      have hnb65 := NB891_893.out
      have hnc65 := NB893_891.out
      have hnb66 := NB891_902.out
      have hnc66 := NB902_891.out
      have hnb67 := NB891_903.out
      have hnc67 := NB903_891.out
      have hcz68_0 : w61.cell? ⟨gb891, 0, none⟩ = some (.bool n1) := (blk_cell BK891.out 0).trans rfl
      have hcz68_1 : w61.cell? ⟨gb891, 1, none⟩ = some (.slice An nl.length cn) := (blk_cell BK891.out 1).trans rfl
      have hfz68_0 := blk_frozen BK891.out 0
      have hfz68_1 := blk_frozen BK891.out 1
      go_wp2
      go_meet
      case rel => exact ⟨_, (n1), (by first | rfl | (simp; done) | (simp [*]; done)), H', ⟨by first | omega | exact Nat.le_refl _⟩, ⟨by refine qr_ ?_; exact Kd.R_mono HO897.out (fun _ hk => hk.1)⟩, ⟨by refine qr_ ?_; exact Kd.R_mono HO901.out (fun _ hk => hk.1)⟩, ⟨by refine qb_ ?_; exact BK891.out⟩, ⟨by refine qb_ ?_; exact BK892.out⟩, ⟨by refine qb_ ?_; exact BK893.out⟩, ⟨by refine qb_ ?_; exact BK902.out⟩, ⟨by refine qb_ ?_; exact BK903.out⟩, ⟨(q5_ HB.out GE891.out GE892.out GE893.out GE902.out GE903.out)⟩⟩
     ·rw [if_neg c63] at H
      have c63b0 : (a2 == 2) = false := beq_eq_false_iff_ne.mpr c63
      have c63b1 : (a2 != 2) = true := bne_iff_ne.mpr c63
      by_cases c69 : a2 = 3
      ·rw [if_pos c69] at H
       have c69b0 : (a2 == 3) = true := beq_iff_eq.mpr c69
       have c69b1 : (a2 != 3) = false := bne_eq_false_iff_eq.mpr c69
       clear c69
       have H' := Aside0.mk H
       clear H
       go_wp2
       go_meet
       case rel => exact ⟨_, (decide (t909 ≥ 0)), (by first | rfl | (simp; done) | (simp [*]; done)), H', ⟨by first | omega | exact Nat.le_refl _⟩, ⟨by refine qr_ ?_; exact Kd.R_mono HO897.out (fun _ hk => hk.1)⟩, ⟨by refine qr_ ?_; exact Kd.R_mono HO901.out (fun _ hk => hk.1)⟩, ⟨by refine qb_ ?_; exact BK891.out⟩, ⟨by refine qb_ ?_; exact BK892.out⟩, ⟨by refine qb_ ?_; exact BK893.out⟩, ⟨by refine qb_ ?_; exact BK902.out⟩, ⟨by refine qb_ ?_; exact BK903.out⟩, ⟨(q5_ HB.out GE891.out GE892.out GE893.out GE902.out GE903.out)⟩⟩
      ·rw [if_neg c69] at H
       have c69b0 : (a2 == 3) = false := beq_eq_false_iff_ne.mpr c69
       have c69b1 : (a2 != 3) = true := bne_iff_ne.mpr c69
       by_cases c70 : a2 = 4
       ·rw [if_pos c70] at H
        have c70b0 : (a2 == 4) = true := beq_iff_eq.mpr c70
        have c70b1 : (a2 != 4) = false := bne_eq_false_iff_eq.mpr c70
        clear c70
        by_cases c71 : t909 > 0
        ·rw [if_pos c71] at H
         have c71b0 : decide (0 < t909) = true := decide_eq_true c71
         clear c71
         have H' := Aside0.mk H
         clear H
         go_wp2
         go_meet
         case rel => exact ⟨_, (true), (by first | rfl | (simp; done) | (simp [*]; done)), H', ⟨by first | omega | exact Nat.le_refl _⟩, ⟨by refine qr_ ?_; exact Kd.R_mono HO897.out (fun _ hk => hk.1)⟩, ⟨by refine qr_ ?_; exact Kd.R_mono HO901.out (fun _ hk => hk.1)⟩, ⟨by refine qb_ ?_; exact BK891.out⟩, ⟨by refine qb_ ?_; exact BK892.out⟩, ⟨by refine qb_ ?_; exact BK893.out⟩, ⟨by refine qb_ ?_; exact BK902.out⟩, ⟨by refine qb_ ?_; exact BK903.out⟩, ⟨(q5_ HB.out GE891.out GE892.out GE893.out GE902.out GE903.out)⟩⟩
        ·rw [if_neg c71] at H
         have c71b0 : decide (0 < t909) = false := decide_eq_false c71
         clear c71
         by_cases c72 : t909 = 0
         ·rw [if_pos c72] at H
          have c72b0 : (t909 == 0) = true := beq_iff_eq.mpr c72
          have c72b1 : (t909 != 0) = false := bne_eq_false_iff_eq.mpr c72
          clear c72
          by_cases c73 : (t895.length : Int) > 0
          ·rw [if_pos c73] at H
           have c73b0 : decide (0 < (t895.length : Int)) = true := decide_eq_true c73
           have c73b1 : decide (0 < t895.length) = true := decide_eq_true (by omega)
           clear c73
           by_cases c74 : 0 < (t895.length : Int)
           ·rw [if_pos c74] at H
            have c74b0 : decide (0 < (t895.length : Int)) = true := decide_eq_true c74
            have c74b1 : decide (0 < t895.length) = true := decide_eq_true (by omega)
            clear c74
            have H' := Aside0.mk H
            clear H
            have hnb75 := NB902_891.out
            have hnc75 := NB891_902.out
            have hnb76 := NB902_892.out
            have hnc76 := NB892_902.out
            have hnb77 := NB902_893.out
            have hnc77 := NB893_902.out
            have hnb78 := NB902_903.out
            have hnc78 := NB903_902.out
            have hcz79_0 : w61.cell? ⟨gb902, 0, none⟩ = some (.bool t894) := (blk_cell BK902.out 0).trans rfl
            have hcz79_1 : w61.cell? ⟨gb902, 1, none⟩ = some (.slice Ao51 t895.length co51) := (blk_cell BK902.out 1).trans rfl
            have hfz79_0 := blk_frozen BK902.out 0
            have hfz79_1 := blk_frozen BK902.out 1
            have p910 : 0 ≤ (0 : Int) := (by omega)
            have q910 : 0 < (t895.length : Int) := od_
            obtain ⟨ad910, e910, hx910_0⟩ := Kd.at_int (Kd.R_reads' HO897.out).2.2 0 p910 q910
            cases e910
            have qi910 : (0 < t895.length) = True := eq_true (by omega)
            (try rw [show ((0 : Int)).toNat = 0 from rfl] at hx910_0)
            (try rw [Addr.add_zero'] at hx910_0)
            replace p910 := eq_true p910
            replace q910 := eq_true q910
            go_wp2
            go_meet
            case rel => exact ⟨_, (((Int.tmod (rd t895 0) 2) == 1)), (by first | rfl | (simp; done) | (simp [*]; done)), H', ⟨by first | omega | exact Nat.le_refl _⟩, ⟨by refine qr_ ?_; exact Kd.R_mono HO897.out (fun _ hk => hk.1)⟩, ⟨by refine qr_ ?_; exact Kd.R_mono HO901.out (fun _ hk => hk.1)⟩, ⟨by refine qb_ ?_; exact BK891.out⟩, ⟨by refine qb_ ?_; exact BK892.out⟩, ⟨by refine qb_ ?_; exact BK893.out⟩, ⟨by refine qb_ ?_; exact BK902.out⟩, ⟨by refine qb_ ?_; exact BK903.out⟩, ⟨(q5_ HB.out GE891.out GE892.out GE893.out GE902.out GE903.out)⟩⟩
           ·rw [if_neg c74] at H
            exact absurd H (by simp)
          ·rw [if_neg c73] at H
           have c73b0 : decide (0 < (t895.length : Int)) = false := decide_eq_false c73
           have c73b1 : decide (0 < t895.length) = false := decide_eq_false (by omega)
           clear c73
           have H' := Aside0.mk H
           clear H
           have hnb80 := NB902_891.out
           have hnc80 := NB891_902.out
           have hnb81 := NB902_892.out
           have hnc81 := NB892_902.out
           have hnb82 := NB902_893.out
           have hnc82 := NB893_902.out
           have hnb83 := NB902_903.out
           have hnc83 := NB903_902.out
           have hcz84_0 : w61.cell? ⟨gb902, 0, none⟩ = some (.bool t894) := (blk_cell BK902.out 0).trans rfl
           have hcz84_1 : w61.cell? ⟨gb902, 1, none⟩ = some (.slice Ao51 t895.length co51) := (blk_cell BK902.out 1).trans rfl
           have hfz84_0 := blk_frozen BK902.out 0
           have hfz84_1 := blk_frozen BK902.out 1
           go_wp2
           go_meet
           case rel => exact ⟨_, (false), (by first | rfl | (simp; done) | (simp [*]; done)), H', ⟨by first | omega | exact Nat.le_refl _⟩, ⟨by refine qr_ ?_; exact Kd.R_mono HO897.out (fun _ hk => hk.1)⟩, ⟨by refine qr_ ?_; exact Kd.R_mono HO901.out (fun _ hk => hk.1)⟩, ⟨by refine qb_ ?_; exact BK891.out⟩, ⟨by refine qb_ ?_; exact BK892.out⟩, ⟨by refine qb_ ?_; exact BK893.out⟩, ⟨by refine qb_ ?_; exact BK902.out⟩, ⟨by refine qb_ ?_; exact BK903.out⟩, ⟨(q5_ HB.out GE891.out GE892.out GE893.out GE902.out GE903.out)⟩⟩
         ·rw [if_neg c72] at H
          have c72b0 : (t909 == 0) = false := beq_eq_false_iff_ne.mpr c72
          have c72b1 : (t909 != 0) = true := bne_iff_ne.mpr c72
          have H' := Aside0.mk H
          clear H
          go_wp2
          go_meet
          case rel => exact ⟨_, (false), (by first | rfl | (simp; done) | (simp [*]; done)), H', ⟨by first | omega | exact Nat.le_refl _⟩, ⟨by refine qr_ ?_; exact Kd.R_mono HO897.out (fun _ hk => hk.1)⟩, ⟨by refine qr_ ?_; exact Kd.R_mono HO901.out (fun _ hk => hk.1)⟩, ⟨by refine qb_ ?_; exact BK891.out⟩, ⟨by refine qb_ ?_; exact BK892.out⟩, ⟨by refine qb_ ?_; exact BK893.out⟩, ⟨by refine qb_ ?_; exact BK902.out⟩, ⟨by refine qb_ ?_; exact BK903.out⟩, ⟨(q5_ HB.out GE891.out GE892.out GE893.out GE902.out GE903.out)⟩⟩
       ·rw [if_neg c70] at H
        have c70b0 : (a2 == 4) = false := beq_eq_false_iff_ne.mpr c70
        have c70b1 : (a2 != 4) = true := bne_iff_ne.mpr c70
        have H' := Aside0.mk H
        clear H
        go_wp2
        go_meet
        case rel => exact ⟨_, (false), (by first | rfl | (simp; done) | (simp [*]; done)), H', ⟨by first | omega | exact Nat.le_refl _⟩, ⟨by refine qr_ ?_; exact Kd.R_mono HO897.out (fun _ hk => hk.1)⟩, ⟨by refine qr_ ?_; exact Kd.R_mono HO901.out (fun _ hk => hk.1)⟩, ⟨by refine qb_ ?_; exact BK891.out⟩, ⟨by refine qb_ ?_; exact BK892.out⟩, ⟨by refine qb_ ?_; exact BK893.out⟩, ⟨by refine qb_ ?_; exact BK902.out⟩, ⟨by refine qb_ ?_; exact BK903.out⟩, ⟨(q5_ HB.out GE891.out GE892.out GE893.out GE902.out GE903.out)⟩⟩
   case rest =>
    clear HC34
    try clear c1
    try clear c2
    try clear p2
    try clear c3
    try clear c4
    try clear c5
    try clear c6
    try clear c7
    try clear c8
    try clear c9
    try clear p9
    try clear q9
    try clear hx9
    try clear qi9
    try clear c10
    try clear c11
    try clear c13
    try clear c18
    try clear c19
    try clear c20
    try clear c21
    try clear c24
    try clear c25
    try clear c26
    try clear c38
    try clear c39
    try clear c41
    try clear c46
    try clear c47
    try clear c48
    try clear c49
    try clear c52
    try clear c53
    try clear c54
    try clear c62
    try clear c62b0
    try clear c62b1
    try clear c63
    try clear c63b0
    try clear c63b1
    try clear c64
    try clear c65
    try clear c66
    try clear c67
    try clear c69
    try clear c69b0
    try clear c69b1
    try clear c70
    try clear c70b0
    try clear c70b1
    try clear c71
    try clear c71b0
    try clear c72
    try clear c72b0
    try clear c72b1
    try clear c73
    try clear c73b0
    try clear c73b1
    try clear c74
    try clear c74b0
    try clear c74b1
    try clear c75
    try clear c76
    try clear c77
    try clear c78
    try clear c80
    try clear c81
    try clear c82
    try clear c83
    try clear c84
    try clear hcz12_0
    try clear hcz12_1
    try clear hcz14_0
    try clear hcz14_1
    try clear hcz22_0
    try clear hcz22_1
    try clear hcz27_0
    try clear hcz27_1
    try clear hcz30_0
    try clear hcz30_1
    try clear hcz31_0
    try clear hcz31_1
    try clear hcz40_0
    try clear hcz40_1
    try clear hcz42_0
    try clear hcz42_1
    try clear hcz50_0
    try clear hcz50_1
    try clear hcz55_0
    try clear hcz55_1
    try clear hcz68_0
    try clear hcz68_1
    try clear hcz79_0
    try clear hcz79_1
    try clear hcz84_0
    try clear hcz84_1
    try clear hfz12_0
    try clear hfz12_1
    try clear hfz14_0
    try clear hfz14_1
    try clear hfz22_0
    try clear hfz22_1
    try clear hfz27_0
    try clear hfz27_1
    try clear hfz30_0
    try clear hfz30_1
    try clear hfz31_0
    try clear hfz31_1
    try clear hfz40_0
    try clear hfz40_1
    try clear hfz42_0
    try clear hfz42_1
    try clear hfz50_0
    try clear hfz50_1
    try clear hfz55_0
    try clear hfz55_1
    try clear hfz68_0
    try clear hfz68_1
    try clear hfz79_0
    try clear hfz79_1
    try clear hfz84_0
    try clear hfz84_1
    try clear hx910_0
    try clear p910
    try clear q910
    obtain ⟨kq, x10_33, rfl, HA, HJ33, HO_903001, HO_904001, BK891, BK892, BK893, BK902, BK903, HB⟩ := hcut
    cases kq with
    | zero => exact absurd HA.out (by simp [merinoref01_Rounded.j0])
    | succ kj33 =>
     have H := HA.out
     clear HA
     simp only [merinoref01_Rounded.j0] at H
     by_cases c85 : x10_33 = true
     ·subst c85
      have H1 : ((merinoref01_Of.f kj33 1).bind fun bt911 => ((merinoref01_Plus.f kj33 t894 t895 bt911.1 bt911.2).bind fun bt915 => (some (bt915.1, bt915.2)))) = some (r1, r2) := by rw [if_pos rfl] at H; exact H
      clear H
      have H := H1
      clear H1
      replace H := Option.bind_eq_some_iff.mp H
      obtain ⟨⟨t911, t912⟩, A860, H⟩ := H
      replace H : ((merinoref01_Plus.f kj33 t894 t895 t911 t912).bind fun bt915 => (some (bt915.1, bt915.2))) = some (r1, r2) := H
      have A86 := Aside0.mk A860
      clear A860
      replace H := Option.bind_eq_some_iff.mp H
      obtain ⟨⟨t915, t916⟩, A870, H⟩ := H
      replace H : (some (t915, t916)) = some (r1, r2) := H
      have A87 := Aside0.mk A870
      clear A870
      simp only [Option.some.injEq, Prod.mk.injEq] at H
      obtain ⟨rfl, rfl⟩ := H
      try go_wp2
      have n0_ := Aside0.mk (Kd.R_drew HO_903001.out)
      have n1_ := Aside0.mk (Kd.R_drew HO_904001.out)
      have n2_ := Aside0.mk (blk_drew BK891.out)
      have n3_ := Aside0.mk (blk_drew BK892.out)
      have n4_ := Aside0.mk (blk_drew BK893.out)
      have n5_ := Aside0.mk (blk_drew BK902.out)
      have n6_ := Aside0.mk (blk_drew BK903.out)
      have n7_ := Aside0.mk (below_drew1 HB.out)
      clear HO_903001
      clear HO_904001
      clear BK891
      clear BK892
      clear BK893
      clear BK902
      clear BK903
      clear HB
      have HO_903001 := n0_
      have HO_904001 := n1_
      have BK891 := n2_
      have BK892 := n3_
      have BK893 := n4_
      have BK902 := n5_
      have BK903 := n6_
      have HB := n7_
      clear n0_ n1_ n2_ n3_ n4_ n5_ n6_ n7_
      refine start_ (n := 4) (S := fun w' => w'.cell? ⟨gb902, 0, none⟩ = some (.bool t894) ∧ w'.cell? ⟨gb902, 1, none⟩ = some (.slice Ao51 t895.length co51)) (ds := [3]) #[false, false, false, false] (by kernel_rfl) rfl rfl ⟨(blk_cell BK902.out 0).trans rfl, (blk_cell BK902.out 1).trans rfl⟩ (fun hHeld => ?_)
      generalize wc.drew = w88 at HO_903001 HO_904001 BK891 BK892 BK893 BK902 BK903 HB hHeld ⊢
      refine take_ (i := 0) (N := some 65) (v := ?_) (a' := ?_) #[true, false, false, false] rfl rfl (by kernel_rfl) (fun _ _ _ h => h) (Or.inl ⟨by rfl, ?_⟩) hHeld ?_ ?_
      rotate_left
      ·rintro w' ⟨s0, s1⟩
       go_simp
       with_reducible rfl
      rotate_left
      ·simp only [Act.put, List.setIfInBounds_toArray, List.set_cons_zero, List.set_cons_succ, i64_w, i32_w]
       rfl
      refine one_ (i := 1) (N := some 66) #[true, true, false, false] rfl rfl (by kernel_rfl) (by decide) (fun K hK => ?_)
      refine goes_ Tryd.func24 (by kernel_rfl) rfl #[.int .i64 1] (by rfl) rfl rfl qe_ ?_
      with_reducible refine (merinoref01_Of.calls kj33 1 t911 t912 _ A86.out).mono ?_
      rintro e w89 ⟨v913, rfl, ho0, hb⟩
      refine ⟨_, rfl, ?_⟩
      have n0_ := Aside0.mk (Kd.R_elder' (qr_ HO_903001.out) (Kd.R_base ho0) hb)
      have n1_ := Aside0.mk (Kd.R_elder' (qr_ HO_904001.out) (Kd.R_base ho0) hb)
      have n2_ := Aside0.mk (Kd.R_lower (Kd.R_new' (Kd.R_new' ho0 (Kd.R_lt (qr_ HO_903001.out))) (Kd.R_lt (qr_ HO_904001.out))) (below_size (q5_ HB.out GE891.out GE892.out GE893.out GE902.out GE903.out)))
      have n3_ := Aside0.mk (qk_ BK891.out hb)
      have n4_ := Aside0.mk (qk_ BK892.out hb)
      have n5_ := Aside0.mk (qk_ BK893.out hb)
      have n6_ := Aside0.mk (qk_ BK902.out hb)
      have n7_ := Aside0.mk (qk_ BK903.out hb)
      have n8_ := Aside0.mk (below_step (q5_ HB.out GE891.out GE892.out GE893.out GE902.out GE903.out) hb)
      clear HO_903001
      clear HO_904001
      clear BK891
      clear BK892
      clear BK893
      clear BK902
      clear BK903
      clear HB
      have HO_903001 := n0_
      have HO_904001 := n1_
      have HO914 := n2_
      have BK891 := n3_
      have BK892 := n4_
      have BK893 := n5_
      have BK902 := n6_
      have BK903 := n7_
      have HB := n8_
      clear n0_ n1_ n2_ n3_ n4_ n5_ n6_ n7_ n8_
      (try clear hb)
      (try clear hb2)
      (try clear hk)
      (try clear hi)
      (try clear ho0)
      obtain ⟨Ao90, co90, eo90⟩ := Kd.R_slice HO914.out
      (first | subst eo90 | (injection eo90 with f1_ f2_ f3_; have f4_ := f1_.symm; have f5_ := f3_.symm; clear f1_ f2_ f3_; subst f4_; subst f5_))
      refine hK.out _ _ ⟨(blk_cell BK902.out 0).trans rfl, (blk_cell BK902.out 1).trans rfl⟩ (fun hHeld => ?_)
      clear hK K
      refine norm_ (a' := ?_) ?_ ?_
      rotate_left
      ·show Act.put _ (some 66) _ = _
       simp only [Act.put, List.setIfInBounds_toArray, List.set_cons_zero, List.set_cons_succ, i64_w, i32_w]
       rfl
      refine one_ (i := 2) (N := some 67) #[true, true, true, false] rfl rfl (by kernel_rfl) (by decide) (fun K hK => ?_)
      refine goes_ Tryd.func84 (by kernel_rfl) rfl #[.agg #[.bool t894, .slice Ao51 t895.length co51], .agg #[.bool t911, .slice Ao90 t912.length co90]] (by rfl) rfl rfl qe_ ?_
      with_reducible refine (merinoref01_Plus.calls kj33 t894 _ _ t895 t911 _ _ t912 t915 t916 _ ?side1 ?side2 ?side3 ?side4 A87.out).mono ?_
      (case side1 => exact qc_ (Kd.R_reads' HO_903001.out).2.2)
      (case side2 => exact (Kd.R_reads' HO_903001.out).2.1)
      (case side3 => exact qc_ (Kd.R_reads' HO914.out).2.2)
      (case side4 => exact (Kd.R_reads' HO914.out).2.1)
      rintro e w91 ⟨v917, rfl, ho0, hb⟩
      refine ⟨_, rfl, ?_⟩
      have n0_ := Aside0.mk (Kd.R_elder' (qr_ HO_903001.out) (Kd.R_base ho0) hb)
      have n1_ := Aside0.mk (Kd.R_elder' (qr_ HO_904001.out) (Kd.R_base ho0) hb)
      have n2_ := Aside0.mk (Kd.R_elder' (qr_ HO914.out) (Kd.R_base ho0) hb)
      have n3_ := Aside0.mk (Kd.R_lower (Kd.R_new' (Kd.R_new' (Kd.R_new' ho0 (Kd.R_lt (qr_ HO_903001.out))) (Kd.R_lt (qr_ HO_904001.out))) (Kd.R_lt (qr_ HO914.out))) (below_size (q5_ HB.out GE891.out GE892.out GE893.out GE902.out GE903.out)))
      have n4_ := Aside0.mk (qk_ BK891.out hb)
      have n5_ := Aside0.mk (qk_ BK892.out hb)
      have n6_ := Aside0.mk (qk_ BK893.out hb)
      have n7_ := Aside0.mk (qk_ BK902.out hb)
      have n8_ := Aside0.mk (qk_ BK903.out hb)
      have n9_ := Aside0.mk (below_step (q5_ HB.out GE891.out GE892.out GE893.out GE902.out GE903.out) hb)
      clear HO_903001
      clear HO_904001
      clear HO914
      clear BK891
      clear BK892
      clear BK893
      clear BK902
      clear BK903
      clear HB
      have HO_903001 := n0_
      have HO_904001 := n1_
      have HO914 := n2_
      have HO918 := n3_
      have BK891 := n4_
      have BK892 := n5_
      have BK893 := n6_
      have BK902 := n7_
      have BK903 := n8_
      have HB := n9_
      clear n0_ n1_ n2_ n3_ n4_ n5_ n6_ n7_ n8_ n9_
      (try clear hb)
      (try clear hb2)
      (try clear hk)
      (try clear hi)
      (try clear ho0)
      obtain ⟨Ao93, co93, eo93⟩ := Kd.R_slice HO918.out
      (first | subst eo93 | (injection eo93 with f1_ f2_ f3_; have f4_ := f1_.symm; have f5_ := f3_.symm; clear f1_ f2_ f3_; subst f4_; subst f5_))
      refine hK.out _ _ ⟨(blk_cell BK902.out 0).trans rfl, (blk_cell BK902.out 1).trans rfl⟩ (fun hHeld => ?_)
      clear hK K
      refine norm_ (a' := ?_) ?_ ?_
      rotate_left
      ·show Act.put _ (some 67) _ = _
       simp only [Act.put, List.setIfInBounds_toArray, List.set_cons_zero, List.set_cons_succ, i64_w, i32_w]
       rfl
      refine last_ (i := 3) (N := none) #[true, true, true, true] rfl rfl (by kernel_rfl) (by decide) (fun K hK => ?_)
      have hs92 : w91.cell? ⟨gb902, 0, none⟩ = some (.bool t894) := (blk_cell BK902.out 0).trans rfl
      have hfs92 := blk_frozen BK902.out 0
      have hns92_0 := NB891_902.out
      have hns92_1 := NB892_902.out
      have hns92_2 := NB893_902.out
      have hns92_4 := NB903_902.out
      have hms92_0 := NB902_891.out
      have hms92_1 := NB902_892.out
      have hms92_2 := NB902_893.out
      have hms92_4 := NB902_903.out
      have hs94 : w91.cell? ⟨gb902, 1, none⟩ = some (.slice Ao51 t895.length co51) := (blk_cell BK902.out 1).trans rfl
      have hfs94 := blk_frozen BK902.out 1
      have hns94_0 := NB891_902.out
      have hns94_1 := NB892_902.out
      have hns94_2 := NB893_902.out
      have hns94_4 := NB903_902.out
      have hms94_0 := NB902_891.out
      have hms94_1 := NB902_892.out
      have hms94_2 := NB902_893.out
      have hms94_4 := NB902_903.out
      refine skip_ (w1 := ?_) (by rfl) rfl ?_ ?_
      rotate_left
      ·go_simp
       rfl
      refine hK.out _ _ ?_
      clear hK K
      refine done_ (by kernel_rfl) ?_
      have hnb95 := NB902_891.out
      have hnc95 := NB891_902.out
      have hnb96 := NB902_892.out
      have hnc96 := NB892_902.out
      have hnb97 := NB902_893.out
      have hnc97 := NB893_902.out
      have hnb98 := NB902_903.out
      have hnc98 := NB903_902.out
      have hcz99_0 : w91.cell? ⟨gb902, 0, none⟩ = some (.bool t894) := (blk_cell BK902.out 0).trans rfl
      have hcz99_1 : w91.cell? ⟨gb902, 1, none⟩ = some (.slice Ao51 t895.length co51) := (blk_cell BK902.out 1).trans rfl
      have hfz99_0 := blk_frozen BK902.out 0
      have hfz99_1 := blk_frozen BK902.out 1
      have hnb100 := NB893_891.out
      have hnc100 := NB891_893.out
      have hnb101 := NB893_892.out
      have hnc101 := NB892_893.out
      have hnb102 := NB893_903.out
      have hnc102 := NB903_893.out
      have hcz103_0 : w91.cell? ⟨gb893, 0, none⟩ = some (.bool false) := (blk_cell BK893.out 0).trans rfl
      have hcz103_1 : w91.cell? ⟨gb893, 1, none⟩ = some (.slice none 0 0) := (blk_cell BK893.out 1).trans rfl
      have hfz103_0 := blk_frozen BK893.out 0
      have hfz103_1 := blk_frozen BK893.out 1
      try go_wp2
      refine bodyPost_ret (results_cell_row rfl _ _ gb893 31 #[.bool t915, .slice Ao93 t916.length co93] (0, 0) _ rfl (by refine qb_ ?_; refine blk_put (cs := #[.bool t915, .slice none 0 0]) ?_ 1 _ rfl; refine qb_ ?_; refine blk_put (cs := #[.bool false, .slice none 0 0]) ?_ 0 _ rfl; refine qb_ ?_; refine blk_far ?_ NB893_902.out _; refine qb_ ?_; refine blk_far ?_ NB893_902.out _; refine qb_ ?_; exact BK893.out) Tryd.underlying31 rfl (by kernel_rfl)) rfl ?_
      exact ⟨_, by first | rfl | (simp [errW_none, errW_some] <;> rfl) | (simp [*, errW_none, errW_some] <;> rfl), by refine Kd.R_lower (base := wb.heap.size) ?_ HBw.out.size; refine qr_ ?_; exact Kd.R_mono (Kd.R_far (p := ⟨gb893, 1, none⟩) (Kd.R_far (p := ⟨gb893, 0, none⟩) (Kd.R_far (p := ⟨gb902, 1, none⟩) (Kd.R_far (p := ⟨gb902, 0, none⟩) (Kd.R_types (Kd.R_types HO918.out BK902.out (by decide)) BK893.out (by decide)) (fun _ hk => hk.1.2) (.bool t915)) (fun _ hk => hk.1.2) (.slice Ao93 t916.length co93)) (fun _ hk => hk.2) (.bool t915)) (fun _ hk => hk.2) (.slice Ao93 t916.length co93)) (fun _ hk => trivial), by repeat (first | (with_reducible first | exact below_step HBw.out HB.out | apply below_alloc | apply pw_below_drewN | apply below_drew1 | refine below_set ?_ GE893.out | refine below_set ?_ (Nat.le_trans HBw.out.size GE902.out) | refine below_set ?_ (Nat.le_trans HBw.out.size GE903.out)) | exact below_step HBw.out HB.out)⟩
     ·replace c85 := Bool.eq_false_iff.mpr c85
      subst c85
      have H1 : (some (t894, t895)) = some (r1, r2) := by rw [if_neg (show ¬ (false = true) by decide)] at H; exact H
      clear H
      have H := H1
      clear H1
      simp only [Option.some.injEq, Prod.mk.injEq] at H
      obtain ⟨rfl, rfl⟩ := H
      have hnb104 := NB902_891.out
      have hnc104 := NB891_902.out
      have hnb105 := NB902_892.out
      have hnc105 := NB892_902.out
      have hnb106 := NB902_893.out
      have hnc106 := NB893_902.out
      have hnb107 := NB902_903.out
      have hnc107 := NB903_902.out
      have hcz108_0 : wc.cell? ⟨gb902, 0, none⟩ = some (.bool t894) := (blk_cell BK902.out 0).trans rfl
      have hcz108_1 : wc.cell? ⟨gb902, 1, none⟩ = some (.slice Ao51 t895.length co51) := (blk_cell BK902.out 1).trans rfl
      have hfz108_0 := blk_frozen BK902.out 0
      have hfz108_1 := blk_frozen BK902.out 1
      have hnb109 := NB893_891.out
      have hnc109 := NB891_893.out
      have hnb110 := NB893_892.out
      have hnc110 := NB892_893.out
      have hnb111 := NB893_903.out
      have hnc111 := NB903_893.out
      have hcz112_0 : wc.cell? ⟨gb893, 0, none⟩ = some (.bool false) := (blk_cell BK893.out 0).trans rfl
      have hcz112_1 : wc.cell? ⟨gb893, 1, none⟩ = some (.slice none 0 0) := (blk_cell BK893.out 1).trans rfl
      have hfz112_0 := blk_frozen BK893.out 0
      have hfz112_1 := blk_frozen BK893.out 1
      go_wp2
      refine bodyPost_ret (results_cell_row rfl _ _ gb893 31 #[.bool t894, .slice Ao51 t895.length co51] (0, 0) _ rfl (by refine qb_ ?_; refine blk_put (cs := #[.bool t894, .slice none 0 0]) ?_ 1 _ rfl; refine qb_ ?_; refine blk_put (cs := #[.bool false, .slice none 0 0]) ?_ 0 _ rfl; refine qb_ ?_; exact BK893.out) Tryd.underlying31 rfl (by kernel_rfl)) rfl ?_
      exact ⟨_, by first | rfl | (simp [errW_none, errW_some] <;> rfl) | (simp [*, errW_none, errW_some] <;> rfl), by refine Kd.R_lower (base := wb.heap.size) ?_ HBw.out.size; refine qr_ ?_; exact Kd.R_mono (Kd.R_far (p := ⟨gb893, 1, none⟩) (Kd.R_far (p := ⟨gb893, 0, none⟩) (Kd.R_types HO_903001.out BK893.out (by decide)) (fun _ hk => hk.2) (.bool t894)) (fun _ hk => hk.2) (.slice Ao51 t895.length co51)) (fun _ hk => trivial), by repeat (first | (with_reducible first | exact below_step HBw.out HB.out | apply below_alloc | apply pw_below_drewN | apply below_drew1 | refine below_set ?_ GE893.out | refine below_set ?_ (Nat.le_trans HBw.out.size GE902.out) | refine below_set ?_ (Nat.le_trans HBw.out.size GE903.out)) | exact below_step HBw.out HB.out)⟩
def merinoref01_Rounded.f (k : Nat) (a0_0 : Bool) (l0_1 : List Int) (a1_0 : Bool) (l1_1 : List Int) (a2 : Int) : Option (Bool × List Int) := if a1_0 = true then ((merinoref01_Neg.f k a0_0 l0_1).bind fun bn => ((merinoref01_Neg.f k true l1_1).bind fun bd => if bd.1 = true then none else merinoref01_Rounded.core k bn.1 bn.2 false bd.2 a2)) else merinoref01_Rounded.core k a0_0 l0_1 false l1_1 a2
theorem merinoref01_Rounded.calls (k : Nat) (a0_0 : Bool) (A0_1 : Option Addr) (c0_1 : Nat) (l0_1 : List Int) (a1_0 : Bool) (A1_1 : Option Addr) (c1_1 : Nat) (l1_1 : List Int) (a2 : Int) (r1 : Bool) (r2 : List Int) (w : World) (hr0_1 : Kd.C (Kd.int .i64) w A0_1 l0_1.length l0_1) (hc0_1 : l0_1.length ≤ c0_1) (hr1_1 : Kd.C (Kd.int .i64) w A1_1 l1_1.length l1_1) (hc1_1 : l1_1.length ≤ c1_1) (h : merinoref01_Rounded.f k a0_0 l0_1 a1_0 l1_1 a2 = some (r1, r2)) :
  Calls Tryd.prog 99 #[.agg #[.bool a0_0, .slice A0_1 l0_1.length c0_1], .agg #[.bool a1_0, .slice A1_1 l1_1.length c1_1], .int .i64 a2] w fun e w' => ∃ v1_ : Value, e = .returned (.agg #[.bool r1, v1_]) ∧ Kd.R (Kd.int .i64) 3 w' w.heap.size (fun _ => True) v1_ r2 ∧ Below w.heap.size w w' := by
 cases a1_0 with
 | true =>
  rw [merinoref01_Rounded.f, if_pos rfl] at h
  obtain ⟨⟨n1, nl⟩, hN, h⟩ := Option.bind_eq_some_iff.mp h
  obtain ⟨⟨d1, dl⟩, hD, h⟩ := Option.bind_eq_some_iff.mp h
  cases d1 with
  | true => simp at h
  | false =>
   simp only [Bool.false_eq_true, if_false] at h
   exact merinoref01_Rounded.both k a0_0 A0_1 c0_1 l0_1 true A1_1 c1_1 l1_1 a2 n1 nl dl r1 r2 w hr0_1 hc0_1 hr1_1 hc1_1 (.inr ⟨rfl, hN, hD⟩) h
 | false =>
  rw [merinoref01_Rounded.f, if_neg (by decide)] at h
  exact merinoref01_Rounded.both k a0_0 A0_1 c0_1 l0_1 false A1_1 c1_1 l1_1 a2 a0_0 l0_1 l1_1 r1 r2 w hr0_1 hc0_1 hr1_1 hc1_1 (.inl ⟨rfl, rfl, rfl, rfl⟩) h
end Go.Proofs.YtdjnneflpkllmaaDoor.Q

namespace Go.Proofs.Num
open Go.RowKit Go.Proofs.YtdjnneflpkllmaaDoorW.PrintWords Go.Proofs.YtdjnneflpkllmaaDoorW.PrintMore Go.Proofs.YtdjnneflpkllmaaDoor.Q
set_option linter.unusedVariables false
set_option linter.unusedSimpArgs false
def upQ (x y m : Int) : Bool := if m = 1 then true else if m = 2 then decide (x < 0) else if m = 3 then decide (y ≤ 2 * (x % y)) else if m = 4 then decide (y < 2 * (x % y) ∨ (2 * (x % y) = y ∧ x / y % 2 = 1)) else false
def rndF (x y m : Int) : Int := if x % y = 0 then x / y else if upQ x y m = true then x / y + 1 else x / y
theorem good_par {l : List Int} {x : Int} (g : Good l x) (h : l ≠ []) : at_ l 0 % 2 = x % 2 := by
 cases l with
 | nil => exact (h rfl).elim
 | cons a t =>
  have := g.val
  simp only [valD] at this
  rw [at_cons_zero]
  omega
theorem rcore_ok {a : Bool} {l n : List Int} {x y m : Int} (R : Rep a l x) (gy : Good n y) (hy : 0 < y) (h1 : l.length ≤ 100) (h2 : n.length ≤ 100) :
  ∃ r, Ev (fun k => merinoref01_Rounded.core k a l false n m) (decide (rndF x y m < 0), r) ∧ Rep (decide (rndF x y m < 0)) r (rndF x y m) ∧ r.length ≤ 112 := by
 obtain ⟨q, r, EO, RQ, RR, lq, lr⟩ := over_ok (c := false) R gy hy h1 h2
 have r0 := Int.emod_nonneg x (show y ≠ 0 by omega)
 have r1 := Int.emod_lt_of_pos x hy
 have gr := RR.good
 rw [show ((x % y).natAbs : Int) = x % y by omega] at gr
 have zr : merinoref01_Zero.f false r = some (decide (x % y = 0)) := by
  unfold merinoref01_Zero.f
  congr 1
  rw [Bool.eq_iff_iff]
  simp only [beq_iff_eq, decide_eq_true_eq]
  constructor
  ·intro h
   have : r = [] := by
    cases r with
    | nil => rfl
    | cons => simp at h; omega
   exact gr.zero_iff.1 this
  ·intro h
   rw [gr.zero_iff.2 h]; rfl
 unfold merinoref01_Rounded.core
 by_cases hz : x % y = 0
 ·have e : rndF x y m = x / y := by unfold rndF; rw [if_pos hz]
  rw [e]
  refine ⟨q, Ev.bind EO ?_, RQ, by omega⟩
  simp only [zr, Option.bind_some, decide_eq_true hz, if_true]
  exact Ev.now _
 ·obtain ⟨p, EP, RP, lp⟩ := plus_ok RR RR (by omega) (by omega)
  have RY : Rep false n y := ⟨by rw [show (y.natAbs : Int) = y by omega]; exact gy, (decide_eq_false (by omega)).symm⟩
  have EC := compare_ok RP RY (by omega)
  obtain ⟨u, EU, RU, lu⟩ := of_ok (x := 1) (by omega) (by omega)
  obtain ⟨s, ES, RS, ls⟩ := plus_ok RQ RU (by omega) (by omega)
  have go : ∀ b : Bool, ∃ t, Ev (fun k => merinoref01_Rounded.j0 k b (decide (x / y < 0)) q) (decide ((if b = true then x / y + 1 else x / y) < 0), t) ∧ Rep (decide ((if b = true then x / y + 1 else x / y) < 0)) t (if b = true then x / y + 1 else x / y) ∧ t.length ≤ 112 := fun b => by
   cases b with
   | true =>
    simp only [if_true]
    refine ⟨s, Ev.step (f := fun k => (merinoref01_Of.f k 1).bind fun bt911 => ((merinoref01_Plus.f k (decide (x / y < 0)) q bt911.1 bt911.2).bind fun bt915 => (some (bt915.1, bt915.2)))) (fun k => by rw [merinoref01_Rounded.j0, if_pos rfl]) (Ev.bind EU (Ev.bind ES (Ev.now _))), RS, by omega⟩
   | false =>
    simp only [Bool.false_eq_true, if_false]
    exact ⟨q, Ev.step (f := fun _ => some (decide (x / y < 0), q)) (fun k => by rw [merinoref01_Rounded.j0, if_neg (by decide)]) (Ev.now _), RQ, by omega⟩
  obtain ⟨t, ET, RT, lt⟩ := go (upQ x y m)
  have e : rndF x y m = if upQ x y m = true then x / y + 1 else x / y := by unfold rndF; rw [if_neg hz]
  rw [e]
  refine ⟨t, Ev.bind EO ?_, RT, lt⟩
  simp only [zr, Option.bind_some, decide_eq_false hz, Bool.false_eq_true, if_false]
  refine Ev.bind EP (Ev.bind EC ?_)
  have key : ∀ b : Bool, b = upQ x y m → Ev (fun k => merinoref01_Rounded.j0 k b (decide (x / y < 0)) q) (decide ((if upQ x y m = true then x / y + 1 else x / y) < 0), t) := fun b hb => by rw [hb]; exact ET
  have c3 : cmpI (x % y + x % y) y ≥ 0 ↔ y ≤ 2 * (x % y) := by unfold cmpI; split <;> (try split) <;> omega
  have c4 : cmpI (x % y + x % y) y > 0 ↔ y < 2 * (x % y) := by unfold cmpI; split <;> (try split) <;> omega
  have c5 : cmpI (x % y + x % y) y = 0 ↔ 2 * (x % y) = y := by unfold cmpI; split <;> (try split) <;> omega
  by_cases m1 : m = 1
  ·simp only [if_pos m1]
   exact key _ (by unfold upQ; rw [if_pos m1])
  ·by_cases m2 : m = 2
   ·simp only [if_neg m1, if_pos m2]
    exact key _ (by unfold upQ; rw [if_neg m1, if_pos m2]; exact R.sign)
   ·by_cases m3 : m = 3
    ·simp only [if_neg m1, if_neg m2, if_pos m3]
     exact key _ (by unfold upQ; rw [if_neg m1, if_neg m2, if_pos m3, decide_eq_decide]; exact c3)
    ·by_cases m4 : m = 4
     ·simp only [if_neg m1, if_neg m2, if_neg m3, if_pos m4]
      by_cases d1 : y < 2 * (x % y)
      ·simp only [if_pos (c4.2 d1)]
       exact key _ (by unfold upQ; rw [if_neg m1, if_neg m2, if_neg m3, if_pos m4, decide_eq_true (Or.inl d1)])
      ·simp only [if_neg (show ¬ cmpI (x % y + x % y) y > 0 from fun h => d1 (c4.1 h))]
       by_cases d2 : 2 * (x % y) = y
       ·simp only [if_pos (c5.2 d2)]
        by_cases d3 : (q.length : Int) > 0
        ·have hq : q ≠ [] := fun h => by rw [h] at d3; simp at d3
         have par := good_par RQ.good hq
         have dig := RQ.good.dig (at_ q 0) (by cases q with | nil => exact (hq rfl).elim | cons a t => rw [at_cons_zero]; exact List.mem_cons_self ..)
         simp only [if_pos d3, if_pos (show 0 < (q.length : Int) by omega)]
         refine key _ ?_
         unfold upQ
         rw [if_neg m1, if_neg m2, if_neg m3, if_pos m4, show rd q 0 = at_ q 0 from rd_nat q 0, Int.tmod_eq_emod_of_nonneg dig.1, Bool.eq_iff_iff]
         simp only [beq_iff_eq, decide_eq_true_eq]
         omega
        ·have hq : q = [] := by
          cases q with
          | nil => rfl
          | cons => simp at d3
         have q0 := RQ.good.zero_iff.1 hq
         simp only [if_neg d3]
         exact key _ (by unfold upQ; rw [if_neg m1, if_neg m2, if_neg m3, if_pos m4]; symm; rw [decide_eq_false_iff_not]; omega)
       ·simp only [if_neg (show ¬ cmpI (x % y + x % y) y = 0 from fun h => d2 (c5.1 h))]
        exact key _ (by unfold upQ; rw [if_neg m1, if_neg m2, if_neg m3, if_pos m4]; symm; rw [decide_eq_false_iff_not]; omega)
     ·simp only [if_neg m1, if_neg m2, if_neg m3, if_neg m4]
      exact key _ (by unfold upQ; rw [if_neg m1, if_neg m2, if_neg m3, if_neg m4])
def rndS (x y m : Int) : Int := if y < 0 then rndF (-x) (-y) m else rndF x y m
theorem rrounded_ok {a b : Bool} {l n : List Int} {x y m : Int} (R : Rep a l x) (S : Rep b n y) (hy : y ≠ 0) (h1 : l.length ≤ 100) (h2 : n.length ≤ 100) :
  ∃ r, Ev (fun k => merinoref01_Rounded.f k a l b n m) (decide (rndS x y m < 0), r) ∧ Rep (decide (rndS x y m < 0)) r (rndS x y m) ∧ r.length ≤ 112 := by
 unfold merinoref01_Rounded.f rndS
 by_cases c : y < 0
 ·have hb : b = true := by rw [S.sign]; exact decide_eq_true c
  subst hb
  simp only [if_true, if_pos c]
  obtain ⟨r1, E1, R1, l1⟩ := neg_big_ok R (by omega)
  obtain ⟨r2, E2, R2, l2⟩ := neg_big_ok S (by omega)
  have g := R2.good
  rw [show ((-y).natAbs : Int) = -y by omega] at g
  obtain ⟨r, E, RR, lr⟩ := rcore_ok (m := m) R1 g (by omega) (by omega) (by omega)
  refine ⟨r, Ev.bind E1 (Ev.bind E2 ?_), RR, lr⟩
  have e : decide (-y < 0) = false := decide_eq_false (by omega)
  simp only [e, Bool.false_eq_true, if_false]
  exact E
 ·have hb : b = false := by rw [S.sign]; exact decide_eq_false c
  subst hb
  simp only [Bool.false_eq_true, if_false, if_neg c]
  have g := S.good
  rw [show (y.natAbs : Int) = y by omega] at g
  exact rcore_ok R g (by omega) h1 h2
end Go.Proofs.Num

namespace Go.Proofs.Num
set_option linter.unusedVariables false
end Go.Proofs.Num

namespace Go.Proofs.YtdjnneflpkllmaaDoor.Q
open Go.RowKit Go.Proofs.YtdjnneflpkllmaaDoorW.PrintWords Go.Proofs.YtdjnneflpkllmaaDoorW.PrintLast Go.Proofs.YtdjnneflpkllmaaDoorW.PrintMore
attribute [local go_sem] max2_int min2_int max_two min_two max_three min_three max_four min_four
set_option linter.unusedVariables false
set_option linter.unusedSimpArgs false
def num_down.f (a0 : Int) (a1 : Int) : Option (Int × Int) := if a1 = 0 then (none) else (if (Int.tmod a0 a1) < 0 then (some (wrap64 ((wrap64 (Int.tdiv a0 a1)) - 1), wrap64 ((Int.tmod a0 a1) + a1))) else (some (wrap64 (Int.tdiv a0 a1), Int.tmod a0 a1)))
set_option maxHeartbeats 8000000 in
set_option maxRecDepth 100000 in
theorem num_down.calls (a0 : Int) (a1 : Int) (r1 : Int) (r2 : Int) (w : World) (h : num_down.f a0 a1 = some (r1, r2)) :
  Calls Tryd.prog 70 #[.int .i64 a0, .int .i64 a1] w fun e w' => e = .returned (.tuple #[.int .i64 r1, .int .i64 r2]) ∧ Drawn0 w w' := by
 have H : (if a1 = 0 then (none) else (if (Int.tmod a0 a1) < 0 then (some (wrap64 ((wrap64 (Int.tdiv a0 a1)) - 1), wrap64 ((Int.tmod a0 a1) + a1))) else (some (wrap64 (Int.tdiv a0 a1), Int.tmod a0 a1)))) = some (r1, r2) := h
 clear h
 by_cases c3 : a1 = 0
 ·rw [if_pos c3] at H
  exact absurd H (by simp)
 ·rw [if_neg c3] at H
  have c3b0 : (a1 == 0) = false := beq_eq_false_iff_ne.mpr c3
  have c3b1 : (a1 != 0) = true := bne_iff_ne.mpr c3
  by_cases c4 : (Int.tmod a0 a1) < 0
  ·rw [if_pos c4] at H
   have c4b0 : decide ((Int.tmod a0 a1) < 0) = true := decide_eq_true c4
   clear c4
   simp only [Option.some.injEq, Prod.mk.injEq] at H
   obtain ⟨rfl, rfl⟩ := H
   go_enter Tryd.func70, Tryd.ntmps70
   go_wp2
   repeat (go_quiet (fail); try go_wp2)
   go_ret2
   exact ⟨by first | rfl | (simp; done) | (simp [*]; done), by repeat (first | exact Drawn0.refl _ | apply Drawn0.step)⟩
  ·rw [if_neg c4] at H
   have c4b0 : decide ((Int.tmod a0 a1) < 0) = false := decide_eq_false c4
   clear c4
   simp only [Option.some.injEq, Prod.mk.injEq] at H
   obtain ⟨rfl, rfl⟩ := H
   go_enter Tryd.func70, Tryd.ntmps70
   go_wp2
   repeat (go_quiet (fail); try go_wp2)
   go_ret2
   exact ⟨by first | rfl | (simp; done) | (simp [*]; done), by repeat (first | exact Drawn0.refl _ | apply Drawn0.step)⟩
theorem self2_ {W : World} {g : Nat} {A B : Value} {t : TypeId} {f : Nat × Nat} (k : W.heap[g]? = some (.cells #[A, B] t f)) : (W.setCell ⟨g, 0, none⟩ A).setCell ⟨g, 1, none⟩ B = W := by
 have h : (((W.setCell ⟨g, 0, none⟩ A).setCell ⟨g, 1, none⟩ B)).heap = W.heap := by
  apply Array.ext_getElem?
  intro i
  simp only [World.setCell, Array.getElem?_modify]
  by_cases e : g = i
  ·subst e
   simp [k]
  ·simp [e]
 exact (show _ = { W with heap := ((W.setCell ⟨g, 0, none⟩ A).setCell ⟨g, 1, none⟩ B).heap } from rfl).trans (by rw [h])
mutual
def num_around.l0 : Nat → Int → Int → Int → Int → Int → Int → Int → Option (Int × Int × Int × Int)
 | 0, _, _, _, _, _, _, _ => none
 | k + 1, x0, x1, x2, x102000, x102001, x103000, x103001 => if x103001 = 0 then (none) else (if (wrap64 ((wrap64 (x103000 * x1)) - (wrap64 (x0 * x103001)))) > 0 then (if (wrap64 ((wrap64 (x103000 * x1)) - (wrap64 (x0 * x103001)))) = 0 then (none) else (num_around.j1 k x0 x1 x2 (mn (wrap64 (Int.tdiv (wrap64 (x2 - x102001)) x103001)) (wrap64 (Int.tdiv (wrap64 ((wrap64 (x0 * x102001)) - (wrap64 (x102000 * x1)))) (wrap64 ((wrap64 (x103000 * x1)) - (wrap64 (x0 * x103001))))))) x102000 x102001 x103000 x103001)) else (num_around.j1 k x0 x1 x2 (wrap64 (Int.tdiv (wrap64 (x2 - x102001)) x103001)) x102000 x102001 x103000 x103001))
def num_around.j1 : Nat → Int → Int → Int → Int → Int → Int → Int → Int → Option (Int × Int × Int × Int)
 | 0, _, _, _, _, _, _, _, _ => none
 | k + 1, x0, x1, x2, x8, x102000, x102001, x103000, x103001 => if (wrap64 (x102001 + (wrap64 (x8 * x103001)))) = 0 then (none) else (if (wrap64 ((wrap64 (x0 * (wrap64 (x102001 + (wrap64 (x8 * x103001)))))) - (wrap64 ((wrap64 (x102000 + (wrap64 (x8 * x103000)))) * x1)))) > 0 then (if (wrap64 ((wrap64 (x0 * (wrap64 (x102001 + (wrap64 (x8 * x103001)))))) - (wrap64 ((wrap64 (x102000 + (wrap64 (x8 * x103000)))) * x1)))) = 0 then (none) else (if x8 = 0 then (if (mn (wrap64 (Int.tdiv (wrap64 (x2 - x103001)) (wrap64 (x102001 + (wrap64 (x8 * x103001)))))) (wrap64 (Int.tdiv (wrap64 ((wrap64 ((wrap64 (x103000 * x1)) - (wrap64 (x0 * x103001)))) - 1)) (wrap64 ((wrap64 (x0 * (wrap64 (x102001 + (wrap64 (x8 * x103001)))))) - (wrap64 ((wrap64 (x102000 + (wrap64 (x8 * x103000)))) * x1))))))) = 0 then (some (wrap64 (x102000 + (wrap64 (x8 * x103000))), wrap64 (x102001 + (wrap64 (x8 * x103001))), wrap64 (x103000 + (wrap64 ((mn (wrap64 (Int.tdiv (wrap64 (x2 - x103001)) (wrap64 (x102001 + (wrap64 (x8 * x103001)))))) (wrap64 (Int.tdiv (wrap64 ((wrap64 ((wrap64 (x103000 * x1)) - (wrap64 (x0 * x103001)))) - 1)) (wrap64 ((wrap64 (x0 * (wrap64 (x102001 + (wrap64 (x8 * x103001)))))) - (wrap64 ((wrap64 (x102000 + (wrap64 (x8 * x103000)))) * x1))))))) * (wrap64 (x102000 + (wrap64 (x8 * x103000))))))), wrap64 (x103001 + (wrap64 ((mn (wrap64 (Int.tdiv (wrap64 (x2 - x103001)) (wrap64 (x102001 + (wrap64 (x8 * x103001)))))) (wrap64 (Int.tdiv (wrap64 ((wrap64 ((wrap64 (x103000 * x1)) - (wrap64 (x0 * x103001)))) - 1)) (wrap64 ((wrap64 (x0 * (wrap64 (x102001 + (wrap64 (x8 * x103001)))))) - (wrap64 ((wrap64 (x102000 + (wrap64 (x8 * x103000)))) * x1))))))) * (wrap64 (x102001 + (wrap64 (x8 * x103001))))))))) else (num_around.l0 k x0 x1 x2 (wrap64 (x102000 + (wrap64 (x8 * x103000)))) (wrap64 (x102001 + (wrap64 (x8 * x103001)))) (wrap64 (x103000 + (wrap64 ((mn (wrap64 (Int.tdiv (wrap64 (x2 - x103001)) (wrap64 (x102001 + (wrap64 (x8 * x103001)))))) (wrap64 (Int.tdiv (wrap64 ((wrap64 ((wrap64 (x103000 * x1)) - (wrap64 (x0 * x103001)))) - 1)) (wrap64 ((wrap64 (x0 * (wrap64 (x102001 + (wrap64 (x8 * x103001)))))) - (wrap64 ((wrap64 (x102000 + (wrap64 (x8 * x103000)))) * x1))))))) * (wrap64 (x102000 + (wrap64 (x8 * x103000)))))))) (wrap64 (x103001 + (wrap64 ((mn (wrap64 (Int.tdiv (wrap64 (x2 - x103001)) (wrap64 (x102001 + (wrap64 (x8 * x103001)))))) (wrap64 (Int.tdiv (wrap64 ((wrap64 ((wrap64 (x103000 * x1)) - (wrap64 (x0 * x103001)))) - 1)) (wrap64 ((wrap64 (x0 * (wrap64 (x102001 + (wrap64 (x8 * x103001)))))) - (wrap64 ((wrap64 (x102000 + (wrap64 (x8 * x103000)))) * x1))))))) * (wrap64 (x102001 + (wrap64 (x8 * x103001)))))))))) else (num_around.l0 k x0 x1 x2 (wrap64 (x102000 + (wrap64 (x8 * x103000)))) (wrap64 (x102001 + (wrap64 (x8 * x103001)))) (wrap64 (x103000 + (wrap64 ((mn (wrap64 (Int.tdiv (wrap64 (x2 - x103001)) (wrap64 (x102001 + (wrap64 (x8 * x103001)))))) (wrap64 (Int.tdiv (wrap64 ((wrap64 ((wrap64 (x103000 * x1)) - (wrap64 (x0 * x103001)))) - 1)) (wrap64 ((wrap64 (x0 * (wrap64 (x102001 + (wrap64 (x8 * x103001)))))) - (wrap64 ((wrap64 (x102000 + (wrap64 (x8 * x103000)))) * x1))))))) * (wrap64 (x102000 + (wrap64 (x8 * x103000)))))))) (wrap64 (x103001 + (wrap64 ((mn (wrap64 (Int.tdiv (wrap64 (x2 - x103001)) (wrap64 (x102001 + (wrap64 (x8 * x103001)))))) (wrap64 (Int.tdiv (wrap64 ((wrap64 ((wrap64 (x103000 * x1)) - (wrap64 (x0 * x103001)))) - 1)) (wrap64 ((wrap64 (x0 * (wrap64 (x102001 + (wrap64 (x8 * x103001)))))) - (wrap64 ((wrap64 (x102000 + (wrap64 (x8 * x103000)))) * x1))))))) * (wrap64 (x102001 + (wrap64 (x8 * x103001))))))))))) else (if x8 = 0 then (if (wrap64 (Int.tdiv (wrap64 (x2 - x103001)) (wrap64 (x102001 + (wrap64 (x8 * x103001)))))) = 0 then (some (wrap64 (x102000 + (wrap64 (x8 * x103000))), wrap64 (x102001 + (wrap64 (x8 * x103001))), wrap64 (x103000 + (wrap64 ((wrap64 (Int.tdiv (wrap64 (x2 - x103001)) (wrap64 (x102001 + (wrap64 (x8 * x103001)))))) * (wrap64 (x102000 + (wrap64 (x8 * x103000))))))), wrap64 (x103001 + (wrap64 ((wrap64 (Int.tdiv (wrap64 (x2 - x103001)) (wrap64 (x102001 + (wrap64 (x8 * x103001)))))) * (wrap64 (x102001 + (wrap64 (x8 * x103001))))))))) else (num_around.l0 k x0 x1 x2 (wrap64 (x102000 + (wrap64 (x8 * x103000)))) (wrap64 (x102001 + (wrap64 (x8 * x103001)))) (wrap64 (x103000 + (wrap64 ((wrap64 (Int.tdiv (wrap64 (x2 - x103001)) (wrap64 (x102001 + (wrap64 (x8 * x103001)))))) * (wrap64 (x102000 + (wrap64 (x8 * x103000)))))))) (wrap64 (x103001 + (wrap64 ((wrap64 (Int.tdiv (wrap64 (x2 - x103001)) (wrap64 (x102001 + (wrap64 (x8 * x103001)))))) * (wrap64 (x102001 + (wrap64 (x8 * x103001)))))))))) else (num_around.l0 k x0 x1 x2 (wrap64 (x102000 + (wrap64 (x8 * x103000)))) (wrap64 (x102001 + (wrap64 (x8 * x103001)))) (wrap64 (x103000 + (wrap64 ((wrap64 (Int.tdiv (wrap64 (x2 - x103001)) (wrap64 (x102001 + (wrap64 (x8 * x103001)))))) * (wrap64 (x102000 + (wrap64 (x8 * x103000)))))))) (wrap64 (x103001 + (wrap64 ((wrap64 (Int.tdiv (wrap64 (x2 - x103001)) (wrap64 (x102001 + (wrap64 (x8 * x103001)))))) * (wrap64 (x102001 + (wrap64 (x8 * x103001)))))))))))
end
def num_around.f (k : Nat) (a0 : Int) (a1 : Int) (a2 : Int) : Option (Int × Int × Int × Int) := num_around.l0 k a0 a1 a2 0 1 1 1
set_option maxHeartbeats 8000000 in
set_option maxRecDepth 100000 in
theorem num_around.calls (k : Nat) (a0 : Int) (a1 : Int) (a2 : Int) (r1 : Int) (r2 : Int) (r3 : Int) (r4 : Int) (w : World) (h : num_around.f k a0 a1 a2 = some (r1, r2, r3, r4)) :
  Calls Tryd.prog 71 #[.int .i64 a0, .int .i64 a1, .int .i64 a2] w fun e w' => e = .returned (.tuple #[.agg #[.int .i64 r1, .int .i64 r2], .agg #[.int .i64 r3, .int .i64 r4]]) ∧ Below w.heap.size w w' := by
 have hu23 := Tryd.underlying23
 have HB := Aside0.mk (Below.refl w.heap.size w)
 have H : (num_around.l0 k a0 a1 a2 0 1 1 1) = some (r1, r2, r3, r4) := h
 clear h
 have H' := Aside0.mk H
 clear H
 go_enter Tryd.func71, Tryd.ntmps71
 go_wp2_with (first | ((with_reducible refine gate_dst (N := 6) rfl ?_); refine qx_ 6 #[.int .i64 0, .int .i64 0] 23 ?hr ?_; (case hr => first | (go_simp; done) | (go_simp; rfl)); intro gb101 hg w4 hbox hb; have n0_ := Aside0.mk (below_step (q0_ HB.out) hb); have n1_ := Aside0.mk (hbox); have n2_ := Aside0.mk (qs_ hg (q0_ HB.out) : w.heap.size ≤ gb101); have n3_ := n2_; clear HB; have HB := n0_; have BK101 := n1_; have GW101 := n2_; have GE101 := n3_; clear n0_ n1_ n2_ n3_; clear hb hbox hg) | ((with_reducible refine gate_dst (N := 7) rfl ?_); refine qx_ 7 #[.int .i64 0, .int .i64 0] 23 ?hr ?_; (case hr => first | (go_simp; done) | (go_simp; rfl)); intro gb102 hg w5 hbox hb; have n0_ := Aside0.mk (qk_ BK101.out hb); have n1_ := Aside0.mk (below_step (q1_ HB.out GE101.out) hb); have n2_ := Aside0.mk (hbox); have n3_ := Aside0.mk (qs_ hg (q1_ HB.out GE101.out) : w.heap.size ≤ gb102); have n4_ := n3_; have n5_ := Aside0.mk (qn_ hg BK101.out); have n6_ := Aside0.mk (Ne.symm (qn_ hg BK101.out)); clear BK101; clear HB; have BK101 := n0_; have HB := n1_; have BK102 := n2_; have GW102 := n3_; have GE102 := n4_; have NB101_102 := n5_; have NB102_101 := n6_; clear n0_ n1_ n2_ n3_ n4_ n5_ n6_; clear hb hbox hg; have hnb6 := NB101_102.out; have hnc6 := NB102_101.out; have hcz7_0 : w5.cell? ⟨gb101, 0, none⟩ = some (.int .i64 0) := (blk_cell BK101.out 0).trans rfl; have hcz7_1 : w5.cell? ⟨gb101, 1, none⟩ = some (.int .i64 0) := (blk_cell BK101.out 1).trans rfl; have hfz7_0 := blk_frozen BK101.out 0; have hfz7_1 := blk_frozen BK101.out 1; have hcz8_0 : w5.cell? ⟨gb102, 0, none⟩ = some (.int .i64 0) := (blk_cell BK102.out 0).trans rfl; have hcz8_1 : w5.cell? ⟨gb102, 1, none⟩ = some (.int .i64 0) := (blk_cell BK102.out 1).trans rfl; have hfz8_0 := blk_frozen BK102.out 0; have hfz8_1 := blk_frozen BK102.out 1))
 go_loopg [] k (fun kq w' => ∃ (x102000_1 : Int) (x102001_1 : Int) (x103000_1 : Int) (x103001_1 : Int), Aside0 (num_around.l0 kq a0 a1 a2 x102000_1 x102001_1 x103000_1 x103001_1 = some (r1, r2, r3, r4)) ∧ Aside0 (kq ≤ k) ∧ Aside0 (w'.heap[gb101]? = some (.cells #[.int .i64 x102000_1, .int .i64 x102001_1] 23 (0, 0))) ∧ Aside0 (w'.heap[gb102]? = some (.cells #[.int .i64 x103000_1, .int .i64 x103001_1] 23 (0, 0))) ∧ Aside0 (Below w.heap.size w w'))
 case atStart => exact ⟨(0), (1), (1), (1), H', ⟨Nat.le_refl _⟩, ⟨by refine qb_ ?_; refine blk_far ?_ NB101_102.out _; refine qb_ ?_; refine blk_far ?_ NB101_102.out _; refine qb_ ?_; refine blk_put (cs := #[.int .i64 0, .int .i64 0]) ?_ 1 _ rfl; refine qb_ ?_; refine blk_put (cs := #[.int .i64 0, .int .i64 0]) ?_ 0 _ rfl; refine qb_ ?_; exact BK101.out⟩, ⟨by refine qb_ ?_; refine blk_put (cs := #[.int .i64 1, .int .i64 0]) ?_ 1 _ rfl; refine qb_ ?_; refine blk_put (cs := #[.int .i64 0, .int .i64 0]) ?_ 0 _ rfl; refine qb_ ?_; refine blk_far ?_ NB102_101.out _; refine qb_ ?_; refine blk_far ?_ NB102_101.out _; refine qb_ ?_; exact BK102.out⟩, ⟨(q2_ HB.out GE101.out GE102.out)⟩⟩
 case round =>
  clear H'
  try clear p2
  try clear c6
  try clear c7
  try clear hcz7_0
  try clear hcz7_1
  try clear hcz8_0
  try clear hcz8_1
  try clear hfz7_0
  try clear hfz7_1
  try clear hfz8_0
  try clear hfz8_1
  obtain ⟨x102000_1, x102001_1, x103000_1, x103001_1, HA, HK1, BK101, BK102, HB⟩ := hrel
  cases gk with
  | zero => exact absurd HA.out (by simp [num_around.l0])
  | succ k1 =>
   have H := HA.out
   clear HA
   simp only [num_around.l0] at H
   by_cases c9 : x103001_1 = 0
   ·rw [if_pos c9] at H
    exact absurd H (by simp)
   ·rw [if_neg c9] at H
    have c9b0 : (x103001_1 == 0) = false := beq_eq_false_iff_ne.mpr c9
    have c9b1 : (x103001_1 != 0) = true := bne_iff_ne.mpr c9
    have HC10 := Aside0.mk H
    clear H
    have hnb11 := NB101_102.out
    have hnc11 := NB102_101.out
    have hcz12_0 : wr.cell? ⟨gb101, 0, none⟩ = some (.int .i64 x102000_1) := (blk_cell BK101.out 0).trans rfl
    have hcz12_1 : wr.cell? ⟨gb101, 1, none⟩ = some (.int .i64 x102001_1) := (blk_cell BK101.out 1).trans rfl
    have hfz12_0 := blk_frozen BK101.out 0
    have hfz12_1 := blk_frozen BK101.out 1
    have hcz13_0 : wr.cell? ⟨gb102, 0, none⟩ = some (.int .i64 x103000_1) := (blk_cell BK102.out 0).trans rfl
    have hcz13_1 : wr.cell? ⟨gb102, 1, none⟩ = some (.int .i64 x103001_1) := (blk_cell BK102.out 1).trans rfl
    have hfz13_0 := blk_frozen BK102.out 0
    have hfz13_1 := blk_frozen BK102.out 1
    go_upto_if 31 with (fail)
    go_cut [8] (fun v8 wc => ∃ (kq : Nat) (x8_9 : Int), v8 = .int .i64 x8_9 ∧ Aside0 (num_around.j1 kq a0 a1 a2 x8_9 x102000_1 x102001_1 x103000_1 x103001_1 = some (r1, r2, r3, r4)) ∧ Aside0 (kq ≤ k1) ∧ Aside0 (wc.heap[gb101]? = some (.cells #[.int .i64 x102000_1, .int .i64 x102001_1] 23 (0, 0))) ∧ Aside0 (wc.heap[gb102]? = some (.cells #[.int .i64 x103000_1, .int .i64 x103001_1] 23 (0, 0))) ∧ Aside0 (Below w.heap.size w wc))
    case first =>
     have H := HC10.out
     clear HC10
     by_cases c14 : (wrap64 ((wrap64 (x103000_1 * a1)) - (wrap64 (a0 * x103001_1)))) > 0
     ·rw [if_pos c14] at H
      have c14b0 : decide (0 < (wrap64 ((wrap64 (x103000_1 * a1)) - (wrap64 (a0 * x103001_1))))) = true := decide_eq_true c14
      clear c14
      (first | rw [c14b0] | (simp only [i64_w, i32_w]; rw [c14b0]) | skip)
      by_cases c15 : (wrap64 ((wrap64 (x103000_1 * a1)) - (wrap64 (a0 * x103001_1)))) = 0
      ·rw [if_pos c15] at H
       exact absurd H (by simp)
      ·rw [if_neg c15] at H
       have c15b0 : ((wrap64 ((wrap64 (x103000_1 * a1)) - (wrap64 (a0 * x103001_1)))) == 0) = false := beq_eq_false_iff_ne.mpr c15
       have c15b1 : ((wrap64 ((wrap64 (x103000_1 * a1)) - (wrap64 (a0 * x103001_1)))) != 0) = true := bne_iff_ne.mpr c15
       obtain ⟨ji16, hji16⟩ : ∃ j_ : Int, (mn (wrap64 (Int.tdiv (wrap64 (a2 - x102001_1)) x103001_1)) (wrap64 (Int.tdiv (wrap64 ((wrap64 (a0 * x102001_1)) - (wrap64 (x102000_1 * a1)))) (wrap64 ((wrap64 (x103000_1 * a1)) - (wrap64 (a0 * x103001_1))))))) = j_ := ⟨_, rfl⟩
       replace H : (num_around.j1 k1 a0 a1 a2 ji16 x102000_1 x102001_1 x103000_1 x103001_1) = some (r1, r2, r3, r4) := by first | (rw [hji16] at H; exact H) | (simp only [hji16] at H ⊢; exact H)
       have hji16_ : (if (wrap64 (Int.tdiv (wrap64 ((wrap64 (a0 * x102001_1)) - (wrap64 (x102000_1 * a1)))) (wrap64 ((wrap64 (x103000_1 * a1)) - (wrap64 (a0 * x103001_1)))))) < (wrap64 (Int.tdiv (wrap64 (a2 - x102001_1)) x103001_1)) then (wrap64 (Int.tdiv (wrap64 ((wrap64 (a0 * x102001_1)) - (wrap64 (x102000_1 * a1)))) (wrap64 ((wrap64 (x103000_1 * a1)) - (wrap64 (a0 * x103001_1)))))) else (wrap64 (Int.tdiv (wrap64 (a2 - x102001_1)) x103001_1))) = ji16 := hji16
       have H' := Aside0.mk H
       clear H
       have hnb17 := NB101_102.out
       have hnc17 := NB102_101.out
       have hcz18_0 : wr.cell? ⟨gb101, 0, none⟩ = some (.int .i64 x102000_1) := (blk_cell BK101.out 0).trans rfl
       have hcz18_1 : wr.cell? ⟨gb101, 1, none⟩ = some (.int .i64 x102001_1) := (blk_cell BK101.out 1).trans rfl
       have hfz18_0 := blk_frozen BK101.out 0
       have hfz18_1 := blk_frozen BK101.out 1
       go_wp2
       go_meet
       case rel => exact ⟨_, (ji16), (by first | rfl | (simp; done) | (simp only [← hji16] <;> (first | rfl | simp)) | (simp [*]; done)), H', ⟨by have := HK1.out; first | omega | exact Nat.le_refl _⟩, ⟨by refine qb_ ?_; exact BK101.out⟩, ⟨by refine qb_ ?_; exact BK102.out⟩, ⟨(q2_ HB.out GE101.out GE102.out)⟩⟩
     ·rw [if_neg c14] at H
      have c14b0 : decide (0 < (wrap64 ((wrap64 (x103000_1 * a1)) - (wrap64 (a0 * x103001_1))))) = false := decide_eq_false c14
      clear c14
      (first | rw [c14b0] | (simp only [i64_w, i32_w]; rw [c14b0]) | skip)
      have H' := Aside0.mk H
      clear H
      go_wp2
      go_meet
      case rel => exact ⟨_, (wrap64 (Int.tdiv (wrap64 (a2 - x102001_1)) x103001_1)), (by first | rfl | (simp; done) | (simp [*]; done)), H', ⟨by have := HK1.out; first | omega | exact Nat.le_refl _⟩, ⟨by refine qb_ ?_; exact BK101.out⟩, ⟨by refine qb_ ?_; exact BK102.out⟩, ⟨(q2_ HB.out GE101.out GE102.out)⟩⟩
    case rest =>
     clear HC10
     try clear c1
     try clear p2
     try clear c6
     try clear p6
     try clear c7
     try clear c9
     try clear c9b0
     try clear c9b1
     try clear c11
     try clear c14
     try clear c14b0
     try clear c15
     try clear c15b0
     try clear c15b1
     try clear c17
     try clear hcz12_0
     try clear hcz12_1
     try clear hcz13_0
     try clear hcz13_1
     try clear hcz18_0
     try clear hcz18_1
     try clear hcz7_0
     try clear hcz7_1
     try clear hcz8_0
     try clear hcz8_1
     try clear hfz12_0
     try clear hfz12_1
     try clear hfz13_0
     try clear hfz13_1
     try clear hfz18_0
     try clear hfz18_1
     try clear hfz7_0
     try clear hfz7_1
     try clear hfz8_0
     try clear hfz8_1
     try clear p2
     obtain ⟨kq, x8_9, rfl, HA, HJ9, BK101, BK102, HB⟩ := hcut
     cases kq with
     | zero => exact absurd HA.out (by simp [num_around.j1])
     | succ kj9 =>
      have H := HA.out
      clear HA
      simp only [num_around.j1] at H
      by_cases c19 : (wrap64 (x102001_1 + (wrap64 (x8_9 * x103001_1)))) = 0
      ·rw [if_pos c19] at H
       exact absurd H (by simp)
      ·rw [if_neg c19] at H
       have c19b0 : ((wrap64 (x102001_1 + (wrap64 (x8_9 * x103001_1)))) == 0) = false := beq_eq_false_iff_ne.mpr c19
       have c19b1 : ((wrap64 (x102001_1 + (wrap64 (x8_9 * x103001_1)))) != 0) = true := bne_iff_ne.mpr c19
       by_cases c20 : (wrap64 ((wrap64 (a0 * (wrap64 (x102001_1 + (wrap64 (x8_9 * x103001_1)))))) - (wrap64 ((wrap64 (x102000_1 + (wrap64 (x8_9 * x103000_1)))) * a1)))) > 0
       ·rw [if_pos c20] at H
        have c20b0 : decide (0 < (wrap64 ((wrap64 (a0 * (wrap64 (x102001_1 + (wrap64 (x8_9 * x103001_1)))))) - (wrap64 ((wrap64 (x102000_1 + (wrap64 (x8_9 * x103000_1)))) * a1))))) = true := decide_eq_true c20
        clear c20
        by_cases c21 : (wrap64 ((wrap64 (a0 * (wrap64 (x102001_1 + (wrap64 (x8_9 * x103001_1)))))) - (wrap64 ((wrap64 (x102000_1 + (wrap64 (x8_9 * x103000_1)))) * a1)))) = 0
        ·rw [if_pos c21] at H
         exact absurd H (by simp)
        ·rw [if_neg c21] at H
         have c21b0 : ((wrap64 ((wrap64 (a0 * (wrap64 (x102001_1 + (wrap64 (x8_9 * x103001_1)))))) - (wrap64 ((wrap64 (x102000_1 + (wrap64 (x8_9 * x103000_1)))) * a1)))) == 0) = false := beq_eq_false_iff_ne.mpr c21
         have c21b1 : ((wrap64 ((wrap64 (a0 * (wrap64 (x102001_1 + (wrap64 (x8_9 * x103001_1)))))) - (wrap64 ((wrap64 (x102000_1 + (wrap64 (x8_9 * x103000_1)))) * a1)))) != 0) = true := bne_iff_ne.mpr c21
         obtain ⟨ji22, hji22⟩ : ∃ j_ : Int, (mn (wrap64 (Int.tdiv (wrap64 (a2 - x103001_1)) (wrap64 (x102001_1 + (wrap64 (x8_9 * x103001_1)))))) (wrap64 (Int.tdiv (wrap64 ((wrap64 ((wrap64 (x103000_1 * a1)) - (wrap64 (a0 * x103001_1)))) - 1)) (wrap64 ((wrap64 (a0 * (wrap64 (x102001_1 + (wrap64 (x8_9 * x103001_1)))))) - (wrap64 ((wrap64 (x102000_1 + (wrap64 (x8_9 * x103000_1)))) * a1))))))) = j_ := ⟨_, rfl⟩
         replace H : (if x8_9 = 0 then (if (ji22) = 0 then (some (wrap64 (x102000_1 + (wrap64 (x8_9 * x103000_1))), wrap64 (x102001_1 + (wrap64 (x8_9 * x103001_1))), wrap64 (x103000_1 + (wrap64 ((ji22) * (wrap64 (x102000_1 + (wrap64 (x8_9 * x103000_1))))))), wrap64 (x103001_1 + (wrap64 ((ji22) * (wrap64 (x102001_1 + (wrap64 (x8_9 * x103001_1))))))))) else (num_around.l0 kj9 a0 a1 a2 (wrap64 (x102000_1 + (wrap64 (x8_9 * x103000_1)))) (wrap64 (x102001_1 + (wrap64 (x8_9 * x103001_1)))) (wrap64 (x103000_1 + (wrap64 ((ji22) * (wrap64 (x102000_1 + (wrap64 (x8_9 * x103000_1)))))))) (wrap64 (x103001_1 + (wrap64 ((ji22) * (wrap64 (x102001_1 + (wrap64 (x8_9 * x103001_1)))))))))) else (num_around.l0 kj9 a0 a1 a2 (wrap64 (x102000_1 + (wrap64 (x8_9 * x103000_1)))) (wrap64 (x102001_1 + (wrap64 (x8_9 * x103001_1)))) (wrap64 (x103000_1 + (wrap64 ((ji22) * (wrap64 (x102000_1 + (wrap64 (x8_9 * x103000_1)))))))) (wrap64 (x103001_1 + (wrap64 ((ji22) * (wrap64 (x102001_1 + (wrap64 (x8_9 * x103001_1)))))))))) = some (r1, r2, r3, r4) := by first | (rw [hji22] at H; exact H) | (simp only [hji22] at H ⊢; exact H)
         have hji22_ : (if (wrap64 (Int.tdiv (wrap64 ((wrap64 ((wrap64 (x103000_1 * a1)) - (wrap64 (a0 * x103001_1)))) - 1)) (wrap64 ((wrap64 (a0 * (wrap64 (x102001_1 + (wrap64 (x8_9 * x103001_1)))))) - (wrap64 ((wrap64 (x102000_1 + (wrap64 (x8_9 * x103000_1)))) * a1)))))) < (wrap64 (Int.tdiv (wrap64 (a2 - x103001_1)) (wrap64 (x102001_1 + (wrap64 (x8_9 * x103001_1)))))) then (wrap64 (Int.tdiv (wrap64 ((wrap64 ((wrap64 (x103000_1 * a1)) - (wrap64 (a0 * x103001_1)))) - 1)) (wrap64 ((wrap64 (a0 * (wrap64 (x102001_1 + (wrap64 (x8_9 * x103001_1)))))) - (wrap64 ((wrap64 (x102000_1 + (wrap64 (x8_9 * x103000_1)))) * a1)))))) else (wrap64 (Int.tdiv (wrap64 (a2 - x103001_1)) (wrap64 (x102001_1 + (wrap64 (x8_9 * x103001_1))))))) = ji22 := hji22
         by_cases c23 : x8_9 = 0
         ·rw [if_pos c23] at H
          have c23b0 : (x8_9 == 0) = true := beq_iff_eq.mpr c23
          have c23b1 : (x8_9 != 0) = false := bne_eq_false_iff_eq.mpr c23
          clear c23
          by_cases c24 : (ji22) = 0
          ·rw [if_pos c24] at H
           have c24b0 : ((ji22) == 0) = true := beq_iff_eq.mpr c24
           have c24b1 : ((ji22) != 0) = false := bne_eq_false_iff_eq.mpr c24
           clear c24
           simp only [Option.some.injEq, Prod.mk.injEq] at H
           obtain ⟨rfl, rfl, rfl, rfl⟩ := H
           have hnb25 := NB101_102.out
           have hnc25 := NB102_101.out
           have hcz26_0 : wc.cell? ⟨gb101, 0, none⟩ = some (.int .i64 x102000_1) := (blk_cell BK101.out 0).trans rfl
           have hcz26_1 : wc.cell? ⟨gb101, 1, none⟩ = some (.int .i64 x102001_1) := (blk_cell BK101.out 1).trans rfl
           have hfz26_0 := blk_frozen BK101.out 0
           have hfz26_1 := blk_frozen BK101.out 1
           have hcz27_0 : wc.cell? ⟨gb102, 0, none⟩ = some (.int .i64 x103000_1) := (blk_cell BK102.out 0).trans rfl
           have hcz27_1 : wc.cell? ⟨gb102, 1, none⟩ = some (.int .i64 x103001_1) := (blk_cell BK102.out 1).trans rfl
           have hfz27_0 := blk_frozen BK102.out 0
           have hfz27_1 := blk_frozen BK102.out 1
           go_upto_region 13 with (fail)
           have k1_ : ((((wc.setCell ⟨gb101, 0, none⟩ (.int .i64 (wrap64 (x102000_1 + (wrap64 (x8_9 * x103000_1)))))).setCell ⟨gb101, 1, none⟩ (.int .i64 (wrap64 (x102001_1 + (wrap64 (x8_9 * x103001_1)))))).setCell ⟨gb102, 0, none⟩ (.int .i64 (wrap64 (x103000_1 + (wrap64 ((ji22) * (wrap64 (x102000_1 + (wrap64 (x8_9 * x103000_1)))))))))).setCell ⟨gb102, 1, none⟩ (.int .i64 (wrap64 (x103001_1 + (wrap64 ((ji22) * (wrap64 (x102001_1 + (wrap64 (x8_9 * x103001_1)))))))))).heap[gb101]? = some (.cells #[.int .i64 (wrap64 (x102000_1 + (wrap64 (x8_9 * x103000_1)))), .int .i64 (wrap64 (x102001_1 + (wrap64 (x8_9 * x103001_1))))] 23 (0, 0)) := (by refine qb_ ?_; refine blk_far ?_ NB101_102.out _; refine qb_ ?_; refine blk_far ?_ NB101_102.out _; refine qb_ ?_; refine blk_put (cs := #[.int .i64 (wrap64 (x102000_1 + (wrap64 (x8_9 * x103000_1)))), .int .i64 x102001_1]) ?_ 1 _ rfl; refine qb_ ?_; refine blk_put (cs := #[.int .i64 x102000_1, .int .i64 x102001_1]) ?_ 0 _ rfl; refine qb_ ?_; exact BK101.out)
           have k2_ : ((((wc.setCell ⟨gb101, 0, none⟩ (.int .i64 (wrap64 (x102000_1 + (wrap64 (x8_9 * x103000_1)))))).setCell ⟨gb101, 1, none⟩ (.int .i64 (wrap64 (x102001_1 + (wrap64 (x8_9 * x103001_1)))))).setCell ⟨gb102, 0, none⟩ (.int .i64 (wrap64 (x103000_1 + (wrap64 ((ji22) * (wrap64 (x102000_1 + (wrap64 (x8_9 * x103000_1)))))))))).setCell ⟨gb102, 1, none⟩ (.int .i64 (wrap64 (x103001_1 + (wrap64 ((ji22) * (wrap64 (x102001_1 + (wrap64 (x8_9 * x103001_1)))))))))).heap[gb102]? = some (.cells #[.int .i64 (wrap64 (x103000_1 + (wrap64 ((ji22) * (wrap64 (x102000_1 + (wrap64 (x8_9 * x103000_1)))))))), .int .i64 (wrap64 (x103001_1 + (wrap64 ((ji22) * (wrap64 (x102001_1 + (wrap64 (x8_9 * x103001_1))))))))] 23 (0, 0)) := (by refine qb_ ?_; refine blk_put (cs := #[.int .i64 (wrap64 (x103000_1 + (wrap64 ((ji22) * (wrap64 (x102000_1 + (wrap64 (x8_9 * x103000_1)))))))), .int .i64 x103001_1]) ?_ 1 _ rfl; refine qb_ ?_; refine blk_put (cs := #[.int .i64 x103000_1, .int .i64 x103001_1]) ?_ 0 _ rfl; refine qb_ ?_; refine blk_far ?_ NB102_101.out _; refine qb_ ?_; refine blk_far ?_ NB102_101.out _; refine qb_ ?_; exact BK102.out)
           have kb_ : Below w.heap.size w ((((wc.setCell ⟨gb101, 0, none⟩ (.int .i64 (wrap64 (x102000_1 + (wrap64 (x8_9 * x103000_1)))))).setCell ⟨gb101, 1, none⟩ (.int .i64 (wrap64 (x102001_1 + (wrap64 (x8_9 * x103001_1)))))).setCell ⟨gb102, 0, none⟩ (.int .i64 (wrap64 (x103000_1 + (wrap64 ((ji22) * (wrap64 (x102000_1 + (wrap64 (x8_9 * x103000_1)))))))))).setCell ⟨gb102, 1, none⟩ (.int .i64 (wrap64 (x103001_1 + (wrap64 ((ji22) * (wrap64 (x102001_1 + (wrap64 (x8_9 * x103001_1)))))))))) := (q2_ HB.out GE101.out GE102.out)
           generalize ((((wc.setCell ⟨gb101, 0, none⟩ (.int .i64 (wrap64 (x102000_1 + (wrap64 (x8_9 * x103000_1)))))).setCell ⟨gb101, 1, none⟩ (.int .i64 (wrap64 (x102001_1 + (wrap64 (x8_9 * x103001_1)))))).setCell ⟨gb102, 0, none⟩ (.int .i64 (wrap64 (x103000_1 + (wrap64 ((ji22) * (wrap64 (x102000_1 + (wrap64 (x8_9 * x103000_1)))))))))).setCell ⟨gb102, 1, none⟩ (.int .i64 (wrap64 (x103001_1 + (wrap64 ((ji22) * (wrap64 (x102001_1 + (wrap64 (x8_9 * x103001_1)))))))))) = W_ at k1_ k2_ kb_ ⊢
           have cek1_0 := (blk_cell k1_ 0).trans rfl
           have cfk1_0 := blk_frozen k1_ 0
           have cek1_1 := (blk_cell k1_ 1).trans rfl
           have cfk1_1 := blk_frozen k1_ 1
           have cek2_0 := (blk_cell k2_ 0).trans rfl
           have cfk2_0 := blk_frozen k2_ 0
           have cek2_1 := (blk_cell k2_ 1).trans rfl
           have cfk2_1 := blk_frozen k2_ 1
           have HK1_ := Aside0.mk k1_
           have HK2_ := Aside0.mk k2_
           clear k1_ k2_
           refine start_ (n := 4) (S := fun w' => w' = W_.drew) (ds := []) #[false, false, false, false] (by kernel_rfl) rfl rfl rfl (fun hHeld => ?_)
           refine take_ (i := 0) (N := some 113) (v := ?_) (a' := ?_) #[true, false, false, false] rfl rfl (by kernel_rfl) (fun _ _ _ h => h) (Or.inl ⟨by rfl, ?_⟩) hHeld ?_ ?_
           rotate_left
           ·rintro w' rfl
            go_simp
            with_reducible rfl
           rotate_left
           ·simp only [Act.put, List.setIfInBounds_toArray, List.set_cons_zero, List.set_cons_succ, i64_w, i32_w]
            rfl
           refine take_ (i := 1) (N := some 114) (v := ?_) (a' := ?_) #[true, true, false, false] rfl rfl (by kernel_rfl) (fun _ _ _ h => h) (Or.inl ⟨by rfl, ?_⟩) hHeld ?_ ?_
           rotate_left
           ·rintro w' rfl
            go_simp
            with_reducible rfl
           rotate_left
           ·simp only [Act.put, List.setIfInBounds_toArray, List.set_cons_zero, List.set_cons_succ, i64_w, i32_w]
            rfl
           refine one_ (i := 2) (N := none) #[true, true, true, false] rfl rfl (by kernel_rfl) (by decide) (fun K hK => ?_)
           refine skip_ (w1 := ?_) (by rfl) rfl ?_ ?_
           rotate_left
           ·go_simp
            with_reducible rfl
           refine hK.out _ _ (congrArg World.drew (self2_ HK1_.out)) (fun hHeld => ?_)
           clear hK K
           rw [self2_ HK1_.out]
           refine one_ (i := 3) (N := none) #[true, true, true, true] rfl rfl (by kernel_rfl) (by decide) (fun K hK => ?_)
           refine skip_ (w1 := ?_) (by rfl) rfl ?_ ?_
           rotate_left
           ·go_simp
            with_reducible rfl
           refine hK.out _ _ (congrArg World.drew (self2_ HK2_.out)) (fun hHeld => ?_)
           clear hK K
           rw [self2_ HK2_.out]
           refine done_ (by kernel_rfl) ?_
           go_wp2
           refine bodyPost_ret (results_cc rfl _ _ gb101 gb102 23 23 #[.int .i64 (wrap64 (x102000_1 + (wrap64 (x8_9 * x103000_1)))), .int .i64 (wrap64 (x102001_1 + (wrap64 (x8_9 * x103001_1))))] #[.int .i64 (wrap64 (x103000_1 + (wrap64 ((ji22) * (wrap64 (x102000_1 + (wrap64 (x8_9 * x103000_1)))))))), .int .i64 (wrap64 (x103001_1 + (wrap64 ((ji22) * (wrap64 (x102001_1 + (wrap64 (x8_9 * x103001_1))))))))] (0, 0) (0, 0) _ _ rfl HK1_.out Tryd.underlying23 rfl (by kernel_rfl) rfl HK2_.out Tryd.underlying23 rfl (by kernel_rfl)) rfl ?_
           exact ⟨by first | rfl | (simp [errW_none, errW_some] <;> rfl) | (simp only [← hji22]; first | rfl | (simp [errW_none, errW_some] <;> rfl)) | (simp [*, errW_none, errW_some] <;> rfl), pw_below_drewN kb_ 1⟩
          ·rw [if_neg c24] at H
           have c24b0 : ((ji22) == 0) = false := beq_eq_false_iff_ne.mpr c24
           have c24b1 : ((ji22) != 0) = true := bne_iff_ne.mpr c24
           have H' := Aside0.mk H
           clear H
           have hnb28 := NB101_102.out
           have hnc28 := NB102_101.out
           have hcz29_0 : wc.cell? ⟨gb101, 0, none⟩ = some (.int .i64 x102000_1) := (blk_cell BK101.out 0).trans rfl
           have hcz29_1 : wc.cell? ⟨gb101, 1, none⟩ = some (.int .i64 x102001_1) := (blk_cell BK101.out 1).trans rfl
           have hfz29_0 := blk_frozen BK101.out 0
           have hfz29_1 := blk_frozen BK101.out 1
           have hcz30_0 : wc.cell? ⟨gb102, 0, none⟩ = some (.int .i64 x103000_1) := (blk_cell BK102.out 0).trans rfl
           have hcz30_1 : wc.cell? ⟨gb102, 1, none⟩ = some (.int .i64 x103001_1) := (blk_cell BK102.out 1).trans rfl
           have hfz30_0 := blk_frozen BK102.out 0
           have hfz30_1 := blk_frozen BK102.out 1
           go_wp2
           go_roundg kj9
           case measure => have := HK1.out; have := HJ9.out; omega
           case rel => exact ⟨(wrap64 (x102000_1 + (wrap64 (x8_9 * x103000_1)))), (wrap64 (x102001_1 + (wrap64 (x8_9 * x103001_1)))), (wrap64 (x103000_1 + (wrap64 ((ji22) * (wrap64 (x102000_1 + (wrap64 (x8_9 * x103000_1)))))))), (wrap64 (x103001_1 + (wrap64 ((ji22) * (wrap64 (x102001_1 + (wrap64 (x8_9 * x103001_1)))))))), H', ⟨by have := HK1.out; have := HJ9.out; omega⟩, ⟨by refine qb_ ?_; refine blk_far ?_ NB101_102.out _; refine qb_ ?_; refine blk_far ?_ NB101_102.out _; refine qb_ ?_; refine blk_put (cs := #[.int .i64 (wrap64 (x102000_1 + (wrap64 (x8_9 * x103000_1)))), .int .i64 x102001_1]) ?_ 1 _ rfl; refine qb_ ?_; refine blk_put (cs := #[.int .i64 x102000_1, .int .i64 x102001_1]) ?_ 0 _ rfl; refine qb_ ?_; exact BK101.out⟩, ⟨by refine qb_ ?_; refine blk_put (cs := #[.int .i64 (wrap64 (x103000_1 + (wrap64 ((ji22) * (wrap64 (x102000_1 + (wrap64 (x8_9 * x103000_1)))))))), .int .i64 x103001_1]) ?_ 1 _ rfl; refine qb_ ?_; refine blk_put (cs := #[.int .i64 x103000_1, .int .i64 x103001_1]) ?_ 0 _ rfl; refine qb_ ?_; refine blk_far ?_ NB102_101.out _; refine qb_ ?_; refine blk_far ?_ NB102_101.out _; refine qb_ ?_; exact BK102.out⟩, ⟨(q2_ HB.out GE101.out GE102.out)⟩⟩
         ·rw [if_neg c23] at H
          have c23b0 : (x8_9 == 0) = false := beq_eq_false_iff_ne.mpr c23
          have c23b1 : (x8_9 != 0) = true := bne_iff_ne.mpr c23
          have H' := Aside0.mk H
          clear H
          have hnb31 := NB101_102.out
          have hnc31 := NB102_101.out
          have hcz32_0 : wc.cell? ⟨gb101, 0, none⟩ = some (.int .i64 x102000_1) := (blk_cell BK101.out 0).trans rfl
          have hcz32_1 : wc.cell? ⟨gb101, 1, none⟩ = some (.int .i64 x102001_1) := (blk_cell BK101.out 1).trans rfl
          have hfz32_0 := blk_frozen BK101.out 0
          have hfz32_1 := blk_frozen BK101.out 1
          have hcz33_0 : wc.cell? ⟨gb102, 0, none⟩ = some (.int .i64 x103000_1) := (blk_cell BK102.out 0).trans rfl
          have hcz33_1 : wc.cell? ⟨gb102, 1, none⟩ = some (.int .i64 x103001_1) := (blk_cell BK102.out 1).trans rfl
          have hfz33_0 := blk_frozen BK102.out 0
          have hfz33_1 := blk_frozen BK102.out 1
          go_wp2
          go_roundg kj9
          case measure => have := HK1.out; have := HJ9.out; omega
          case rel => exact ⟨(wrap64 (x102000_1 + (wrap64 (x8_9 * x103000_1)))), (wrap64 (x102001_1 + (wrap64 (x8_9 * x103001_1)))), (wrap64 (x103000_1 + (wrap64 ((ji22) * (wrap64 (x102000_1 + (wrap64 (x8_9 * x103000_1)))))))), (wrap64 (x103001_1 + (wrap64 ((ji22) * (wrap64 (x102001_1 + (wrap64 (x8_9 * x103001_1)))))))), H', ⟨by have := HK1.out; have := HJ9.out; omega⟩, ⟨by refine qb_ ?_; refine blk_far ?_ NB101_102.out _; refine qb_ ?_; refine blk_far ?_ NB101_102.out _; refine qb_ ?_; refine blk_put (cs := #[.int .i64 (wrap64 (x102000_1 + (wrap64 (x8_9 * x103000_1)))), .int .i64 x102001_1]) ?_ 1 _ rfl; refine qb_ ?_; refine blk_put (cs := #[.int .i64 x102000_1, .int .i64 x102001_1]) ?_ 0 _ rfl; refine qb_ ?_; exact BK101.out⟩, ⟨by refine qb_ ?_; refine blk_put (cs := #[.int .i64 (wrap64 (x103000_1 + (wrap64 ((ji22) * (wrap64 (x102000_1 + (wrap64 (x8_9 * x103000_1)))))))), .int .i64 x103001_1]) ?_ 1 _ rfl; refine qb_ ?_; refine blk_put (cs := #[.int .i64 x103000_1, .int .i64 x103001_1]) ?_ 0 _ rfl; refine qb_ ?_; refine blk_far ?_ NB102_101.out _; refine qb_ ?_; refine blk_far ?_ NB102_101.out _; refine qb_ ?_; exact BK102.out⟩, ⟨(q2_ HB.out GE101.out GE102.out)⟩⟩
       ·rw [if_neg c20] at H
        have c20b0 : decide (0 < (wrap64 ((wrap64 (a0 * (wrap64 (x102001_1 + (wrap64 (x8_9 * x103001_1)))))) - (wrap64 ((wrap64 (x102000_1 + (wrap64 (x8_9 * x103000_1)))) * a1))))) = false := decide_eq_false c20
        clear c20
        by_cases c34 : x8_9 = 0
        ·rw [if_pos c34] at H
         have c34b0 : (x8_9 == 0) = true := beq_iff_eq.mpr c34
         have c34b1 : (x8_9 != 0) = false := bne_eq_false_iff_eq.mpr c34
         clear c34
         by_cases c35 : (wrap64 (Int.tdiv (wrap64 (a2 - x103001_1)) (wrap64 (x102001_1 + (wrap64 (x8_9 * x103001_1)))))) = 0
         ·rw [if_pos c35] at H
          have c35b0 : ((wrap64 (Int.tdiv (wrap64 (a2 - x103001_1)) (wrap64 (x102001_1 + (wrap64 (x8_9 * x103001_1)))))) == 0) = true := beq_iff_eq.mpr c35
          have c35b1 : ((wrap64 (Int.tdiv (wrap64 (a2 - x103001_1)) (wrap64 (x102001_1 + (wrap64 (x8_9 * x103001_1)))))) != 0) = false := bne_eq_false_iff_eq.mpr c35
          clear c35
          simp only [Option.some.injEq, Prod.mk.injEq] at H
          obtain ⟨rfl, rfl, rfl, rfl⟩ := H
          have hnb36 := NB101_102.out
          have hnc36 := NB102_101.out
          have hcz37_0 : wc.cell? ⟨gb101, 0, none⟩ = some (.int .i64 x102000_1) := (blk_cell BK101.out 0).trans rfl
          have hcz37_1 : wc.cell? ⟨gb101, 1, none⟩ = some (.int .i64 x102001_1) := (blk_cell BK101.out 1).trans rfl
          have hfz37_0 := blk_frozen BK101.out 0
          have hfz37_1 := blk_frozen BK101.out 1
          have hcz38_0 : wc.cell? ⟨gb102, 0, none⟩ = some (.int .i64 x103000_1) := (blk_cell BK102.out 0).trans rfl
          have hcz38_1 : wc.cell? ⟨gb102, 1, none⟩ = some (.int .i64 x103001_1) := (blk_cell BK102.out 1).trans rfl
          have hfz38_0 := blk_frozen BK102.out 0
          have hfz38_1 := blk_frozen BK102.out 1
          go_upto_region 13 with (fail)
          have k1_ : ((((wc.setCell ⟨gb101, 0, none⟩ (.int .i64 (wrap64 (x102000_1 + (wrap64 (x8_9 * x103000_1)))))).setCell ⟨gb101, 1, none⟩ (.int .i64 (wrap64 (x102001_1 + (wrap64 (x8_9 * x103001_1)))))).setCell ⟨gb102, 0, none⟩ (.int .i64 (wrap64 (x103000_1 + (wrap64 ((wrap64 (Int.tdiv (wrap64 (a2 - x103001_1)) (wrap64 (x102001_1 + (wrap64 (x8_9 * x103001_1)))))) * (wrap64 (x102000_1 + (wrap64 (x8_9 * x103000_1)))))))))).setCell ⟨gb102, 1, none⟩ (.int .i64 (wrap64 (x103001_1 + (wrap64 ((wrap64 (Int.tdiv (wrap64 (a2 - x103001_1)) (wrap64 (x102001_1 + (wrap64 (x8_9 * x103001_1)))))) * (wrap64 (x102001_1 + (wrap64 (x8_9 * x103001_1)))))))))).heap[gb101]? = some (.cells #[.int .i64 (wrap64 (x102000_1 + (wrap64 (x8_9 * x103000_1)))), .int .i64 (wrap64 (x102001_1 + (wrap64 (x8_9 * x103001_1))))] 23 (0, 0)) := (by refine qb_ ?_; refine blk_far ?_ NB101_102.out _; refine qb_ ?_; refine blk_far ?_ NB101_102.out _; refine qb_ ?_; refine blk_put (cs := #[.int .i64 (wrap64 (x102000_1 + (wrap64 (x8_9 * x103000_1)))), .int .i64 x102001_1]) ?_ 1 _ rfl; refine qb_ ?_; refine blk_put (cs := #[.int .i64 x102000_1, .int .i64 x102001_1]) ?_ 0 _ rfl; refine qb_ ?_; exact BK101.out)
          have k2_ : ((((wc.setCell ⟨gb101, 0, none⟩ (.int .i64 (wrap64 (x102000_1 + (wrap64 (x8_9 * x103000_1)))))).setCell ⟨gb101, 1, none⟩ (.int .i64 (wrap64 (x102001_1 + (wrap64 (x8_9 * x103001_1)))))).setCell ⟨gb102, 0, none⟩ (.int .i64 (wrap64 (x103000_1 + (wrap64 ((wrap64 (Int.tdiv (wrap64 (a2 - x103001_1)) (wrap64 (x102001_1 + (wrap64 (x8_9 * x103001_1)))))) * (wrap64 (x102000_1 + (wrap64 (x8_9 * x103000_1)))))))))).setCell ⟨gb102, 1, none⟩ (.int .i64 (wrap64 (x103001_1 + (wrap64 ((wrap64 (Int.tdiv (wrap64 (a2 - x103001_1)) (wrap64 (x102001_1 + (wrap64 (x8_9 * x103001_1)))))) * (wrap64 (x102001_1 + (wrap64 (x8_9 * x103001_1)))))))))).heap[gb102]? = some (.cells #[.int .i64 (wrap64 (x103000_1 + (wrap64 ((wrap64 (Int.tdiv (wrap64 (a2 - x103001_1)) (wrap64 (x102001_1 + (wrap64 (x8_9 * x103001_1)))))) * (wrap64 (x102000_1 + (wrap64 (x8_9 * x103000_1)))))))), .int .i64 (wrap64 (x103001_1 + (wrap64 ((wrap64 (Int.tdiv (wrap64 (a2 - x103001_1)) (wrap64 (x102001_1 + (wrap64 (x8_9 * x103001_1)))))) * (wrap64 (x102001_1 + (wrap64 (x8_9 * x103001_1))))))))] 23 (0, 0)) := (by refine qb_ ?_; refine blk_put (cs := #[.int .i64 (wrap64 (x103000_1 + (wrap64 ((wrap64 (Int.tdiv (wrap64 (a2 - x103001_1)) (wrap64 (x102001_1 + (wrap64 (x8_9 * x103001_1)))))) * (wrap64 (x102000_1 + (wrap64 (x8_9 * x103000_1)))))))), .int .i64 x103001_1]) ?_ 1 _ rfl; refine qb_ ?_; refine blk_put (cs := #[.int .i64 x103000_1, .int .i64 x103001_1]) ?_ 0 _ rfl; refine qb_ ?_; refine blk_far ?_ NB102_101.out _; refine qb_ ?_; refine blk_far ?_ NB102_101.out _; refine qb_ ?_; exact BK102.out)
          have kb_ : Below w.heap.size w ((((wc.setCell ⟨gb101, 0, none⟩ (.int .i64 (wrap64 (x102000_1 + (wrap64 (x8_9 * x103000_1)))))).setCell ⟨gb101, 1, none⟩ (.int .i64 (wrap64 (x102001_1 + (wrap64 (x8_9 * x103001_1)))))).setCell ⟨gb102, 0, none⟩ (.int .i64 (wrap64 (x103000_1 + (wrap64 ((wrap64 (Int.tdiv (wrap64 (a2 - x103001_1)) (wrap64 (x102001_1 + (wrap64 (x8_9 * x103001_1)))))) * (wrap64 (x102000_1 + (wrap64 (x8_9 * x103000_1)))))))))).setCell ⟨gb102, 1, none⟩ (.int .i64 (wrap64 (x103001_1 + (wrap64 ((wrap64 (Int.tdiv (wrap64 (a2 - x103001_1)) (wrap64 (x102001_1 + (wrap64 (x8_9 * x103001_1)))))) * (wrap64 (x102001_1 + (wrap64 (x8_9 * x103001_1)))))))))) := (q2_ HB.out GE101.out GE102.out)
          generalize ((((wc.setCell ⟨gb101, 0, none⟩ (.int .i64 (wrap64 (x102000_1 + (wrap64 (x8_9 * x103000_1)))))).setCell ⟨gb101, 1, none⟩ (.int .i64 (wrap64 (x102001_1 + (wrap64 (x8_9 * x103001_1)))))).setCell ⟨gb102, 0, none⟩ (.int .i64 (wrap64 (x103000_1 + (wrap64 ((wrap64 (Int.tdiv (wrap64 (a2 - x103001_1)) (wrap64 (x102001_1 + (wrap64 (x8_9 * x103001_1)))))) * (wrap64 (x102000_1 + (wrap64 (x8_9 * x103000_1)))))))))).setCell ⟨gb102, 1, none⟩ (.int .i64 (wrap64 (x103001_1 + (wrap64 ((wrap64 (Int.tdiv (wrap64 (a2 - x103001_1)) (wrap64 (x102001_1 + (wrap64 (x8_9 * x103001_1)))))) * (wrap64 (x102001_1 + (wrap64 (x8_9 * x103001_1)))))))))) = W_ at k1_ k2_ kb_ ⊢
          have cek1_0 := (blk_cell k1_ 0).trans rfl
          have cfk1_0 := blk_frozen k1_ 0
          have cek1_1 := (blk_cell k1_ 1).trans rfl
          have cfk1_1 := blk_frozen k1_ 1
          have cek2_0 := (blk_cell k2_ 0).trans rfl
          have cfk2_0 := blk_frozen k2_ 0
          have cek2_1 := (blk_cell k2_ 1).trans rfl
          have cfk2_1 := blk_frozen k2_ 1
          have HK1_ := Aside0.mk k1_
          have HK2_ := Aside0.mk k2_
          clear k1_ k2_
          refine start_ (n := 4) (S := fun w' => w' = W_.drew) (ds := []) #[false, false, false, false] (by kernel_rfl) rfl rfl rfl (fun hHeld => ?_)
          refine take_ (i := 0) (N := some 113) (v := ?_) (a' := ?_) #[true, false, false, false] rfl rfl (by kernel_rfl) (fun _ _ _ h => h) (Or.inl ⟨by rfl, ?_⟩) hHeld ?_ ?_
          rotate_left
          ·rintro w' rfl
           go_simp
           with_reducible rfl
          rotate_left
          ·simp only [Act.put, List.setIfInBounds_toArray, List.set_cons_zero, List.set_cons_succ, i64_w, i32_w]
           rfl
          refine take_ (i := 1) (N := some 114) (v := ?_) (a' := ?_) #[true, true, false, false] rfl rfl (by kernel_rfl) (fun _ _ _ h => h) (Or.inl ⟨by rfl, ?_⟩) hHeld ?_ ?_
          rotate_left
          ·rintro w' rfl
           go_simp
           with_reducible rfl
          rotate_left
          ·simp only [Act.put, List.setIfInBounds_toArray, List.set_cons_zero, List.set_cons_succ, i64_w, i32_w]
           rfl
          refine one_ (i := 2) (N := none) #[true, true, true, false] rfl rfl (by kernel_rfl) (by decide) (fun K hK => ?_)
          refine skip_ (w1 := ?_) (by rfl) rfl ?_ ?_
          rotate_left
          ·go_simp
           with_reducible rfl
          refine hK.out _ _ (congrArg World.drew (self2_ HK1_.out)) (fun hHeld => ?_)
          clear hK K
          rw [self2_ HK1_.out]
          refine one_ (i := 3) (N := none) #[true, true, true, true] rfl rfl (by kernel_rfl) (by decide) (fun K hK => ?_)
          refine skip_ (w1 := ?_) (by rfl) rfl ?_ ?_
          rotate_left
          ·go_simp
           with_reducible rfl
          refine hK.out _ _ (congrArg World.drew (self2_ HK2_.out)) (fun hHeld => ?_)
          clear hK K
          rw [self2_ HK2_.out]
          refine done_ (by kernel_rfl) ?_
          go_wp2
          refine bodyPost_ret (results_cc rfl _ _ gb101 gb102 23 23 #[.int .i64 (wrap64 (x102000_1 + (wrap64 (x8_9 * x103000_1)))), .int .i64 (wrap64 (x102001_1 + (wrap64 (x8_9 * x103001_1))))] #[.int .i64 (wrap64 (x103000_1 + (wrap64 ((wrap64 (Int.tdiv (wrap64 (a2 - x103001_1)) (wrap64 (x102001_1 + (wrap64 (x8_9 * x103001_1)))))) * (wrap64 (x102000_1 + (wrap64 (x8_9 * x103000_1)))))))), .int .i64 (wrap64 (x103001_1 + (wrap64 ((wrap64 (Int.tdiv (wrap64 (a2 - x103001_1)) (wrap64 (x102001_1 + (wrap64 (x8_9 * x103001_1)))))) * (wrap64 (x102001_1 + (wrap64 (x8_9 * x103001_1))))))))] (0, 0) (0, 0) _ _ rfl HK1_.out Tryd.underlying23 rfl (by kernel_rfl) rfl HK2_.out Tryd.underlying23 rfl (by kernel_rfl)) rfl ?_
          exact ⟨by first | rfl | (simp [errW_none, errW_some] <;> rfl) | (simp [*, errW_none, errW_some] <;> rfl), pw_below_drewN kb_ 1⟩
         ·rw [if_neg c35] at H
          have c35b0 : ((wrap64 (Int.tdiv (wrap64 (a2 - x103001_1)) (wrap64 (x102001_1 + (wrap64 (x8_9 * x103001_1)))))) == 0) = false := beq_eq_false_iff_ne.mpr c35
          have c35b1 : ((wrap64 (Int.tdiv (wrap64 (a2 - x103001_1)) (wrap64 (x102001_1 + (wrap64 (x8_9 * x103001_1)))))) != 0) = true := bne_iff_ne.mpr c35
          have H' := Aside0.mk H
          clear H
          have hnb39 := NB101_102.out
          have hnc39 := NB102_101.out
          have hcz40_0 : wc.cell? ⟨gb101, 0, none⟩ = some (.int .i64 x102000_1) := (blk_cell BK101.out 0).trans rfl
          have hcz40_1 : wc.cell? ⟨gb101, 1, none⟩ = some (.int .i64 x102001_1) := (blk_cell BK101.out 1).trans rfl
          have hfz40_0 := blk_frozen BK101.out 0
          have hfz40_1 := blk_frozen BK101.out 1
          have hcz41_0 : wc.cell? ⟨gb102, 0, none⟩ = some (.int .i64 x103000_1) := (blk_cell BK102.out 0).trans rfl
          have hcz41_1 : wc.cell? ⟨gb102, 1, none⟩ = some (.int .i64 x103001_1) := (blk_cell BK102.out 1).trans rfl
          have hfz41_0 := blk_frozen BK102.out 0
          have hfz41_1 := blk_frozen BK102.out 1
          go_wp2
          go_roundg kj9
          case measure => have := HK1.out; have := HJ9.out; omega
          case rel => exact ⟨(wrap64 (x102000_1 + (wrap64 (x8_9 * x103000_1)))), (wrap64 (x102001_1 + (wrap64 (x8_9 * x103001_1)))), (wrap64 (x103000_1 + (wrap64 ((wrap64 (Int.tdiv (wrap64 (a2 - x103001_1)) (wrap64 (x102001_1 + (wrap64 (x8_9 * x103001_1)))))) * (wrap64 (x102000_1 + (wrap64 (x8_9 * x103000_1)))))))), (wrap64 (x103001_1 + (wrap64 ((wrap64 (Int.tdiv (wrap64 (a2 - x103001_1)) (wrap64 (x102001_1 + (wrap64 (x8_9 * x103001_1)))))) * (wrap64 (x102001_1 + (wrap64 (x8_9 * x103001_1)))))))), H', ⟨by have := HK1.out; have := HJ9.out; omega⟩, ⟨by refine qb_ ?_; refine blk_far ?_ NB101_102.out _; refine qb_ ?_; refine blk_far ?_ NB101_102.out _; refine qb_ ?_; refine blk_put (cs := #[.int .i64 (wrap64 (x102000_1 + (wrap64 (x8_9 * x103000_1)))), .int .i64 x102001_1]) ?_ 1 _ rfl; refine qb_ ?_; refine blk_put (cs := #[.int .i64 x102000_1, .int .i64 x102001_1]) ?_ 0 _ rfl; refine qb_ ?_; exact BK101.out⟩, ⟨by refine qb_ ?_; refine blk_put (cs := #[.int .i64 (wrap64 (x103000_1 + (wrap64 ((wrap64 (Int.tdiv (wrap64 (a2 - x103001_1)) (wrap64 (x102001_1 + (wrap64 (x8_9 * x103001_1)))))) * (wrap64 (x102000_1 + (wrap64 (x8_9 * x103000_1)))))))), .int .i64 x103001_1]) ?_ 1 _ rfl; refine qb_ ?_; refine blk_put (cs := #[.int .i64 x103000_1, .int .i64 x103001_1]) ?_ 0 _ rfl; refine qb_ ?_; refine blk_far ?_ NB102_101.out _; refine qb_ ?_; refine blk_far ?_ NB102_101.out _; refine qb_ ?_; exact BK102.out⟩, ⟨(q2_ HB.out GE101.out GE102.out)⟩⟩
        ·rw [if_neg c34] at H
         have c34b0 : (x8_9 == 0) = false := beq_eq_false_iff_ne.mpr c34
         have c34b1 : (x8_9 != 0) = true := bne_iff_ne.mpr c34
         have H' := Aside0.mk H
         clear H
         have hnb42 := NB101_102.out
         have hnc42 := NB102_101.out
         have hcz43_0 : wc.cell? ⟨gb101, 0, none⟩ = some (.int .i64 x102000_1) := (blk_cell BK101.out 0).trans rfl
         have hcz43_1 : wc.cell? ⟨gb101, 1, none⟩ = some (.int .i64 x102001_1) := (blk_cell BK101.out 1).trans rfl
         have hfz43_0 := blk_frozen BK101.out 0
         have hfz43_1 := blk_frozen BK101.out 1
         have hcz44_0 : wc.cell? ⟨gb102, 0, none⟩ = some (.int .i64 x103000_1) := (blk_cell BK102.out 0).trans rfl
         have hcz44_1 : wc.cell? ⟨gb102, 1, none⟩ = some (.int .i64 x103001_1) := (blk_cell BK102.out 1).trans rfl
         have hfz44_0 := blk_frozen BK102.out 0
         have hfz44_1 := blk_frozen BK102.out 1
         go_wp2
         go_roundg kj9
         case measure => have := HK1.out; have := HJ9.out; omega
         case rel => exact ⟨(wrap64 (x102000_1 + (wrap64 (x8_9 * x103000_1)))), (wrap64 (x102001_1 + (wrap64 (x8_9 * x103001_1)))), (wrap64 (x103000_1 + (wrap64 ((wrap64 (Int.tdiv (wrap64 (a2 - x103001_1)) (wrap64 (x102001_1 + (wrap64 (x8_9 * x103001_1)))))) * (wrap64 (x102000_1 + (wrap64 (x8_9 * x103000_1)))))))), (wrap64 (x103001_1 + (wrap64 ((wrap64 (Int.tdiv (wrap64 (a2 - x103001_1)) (wrap64 (x102001_1 + (wrap64 (x8_9 * x103001_1)))))) * (wrap64 (x102001_1 + (wrap64 (x8_9 * x103001_1)))))))), H', ⟨by have := HK1.out; have := HJ9.out; omega⟩, ⟨by refine qb_ ?_; refine blk_far ?_ NB101_102.out _; refine qb_ ?_; refine blk_far ?_ NB101_102.out _; refine qb_ ?_; refine blk_put (cs := #[.int .i64 (wrap64 (x102000_1 + (wrap64 (x8_9 * x103000_1)))), .int .i64 x102001_1]) ?_ 1 _ rfl; refine qb_ ?_; refine blk_put (cs := #[.int .i64 x102000_1, .int .i64 x102001_1]) ?_ 0 _ rfl; refine qb_ ?_; exact BK101.out⟩, ⟨by refine qb_ ?_; refine blk_put (cs := #[.int .i64 (wrap64 (x103000_1 + (wrap64 ((wrap64 (Int.tdiv (wrap64 (a2 - x103001_1)) (wrap64 (x102001_1 + (wrap64 (x8_9 * x103001_1)))))) * (wrap64 (x102000_1 + (wrap64 (x8_9 * x103000_1)))))))), .int .i64 x103001_1]) ?_ 1 _ rfl; refine qb_ ?_; refine blk_put (cs := #[.int .i64 x103000_1, .int .i64 x103001_1]) ?_ 0 _ rfl; refine qb_ ?_; refine blk_far ?_ NB102_101.out _; refine qb_ ?_; refine blk_far ?_ NB102_101.out _; refine qb_ ?_; exact BK102.out⟩, ⟨(q2_ HB.out GE101.out GE102.out)⟩⟩
def num_Best.j0 : Nat → Int → Int → Int → Bool → Option (Int × Int × Int)
 | 0, _, _, _, _ => none
 | k + 1, x0, x1, x2, x36 => if x36 = true then (some (0, 0, 2)) else ((num_down.f x0 x1).bind fun bt104 => ((num_around.f k bt104.2 x1 x2).bind fun bt106 => (if (wrap64 ((wrap64 ((wrap64 (bt106.2.2.1 * x1)) - (wrap64 (bt104.2 * bt106.2.2.2)))) * bt106.2.1)) < (wrap64 ((wrap64 ((wrap64 (bt104.2 * bt106.2.1)) - (wrap64 (bt106.1 * x1)))) * bt106.2.2.2)) then (some (wrap64 (bt106.2.2.1 + (wrap64 (bt104.1 * bt106.2.2.2))), bt106.2.2.2, 0)) else (if (wrap64 ((wrap64 ((wrap64 (bt106.2.2.1 * x1)) - (wrap64 (bt104.2 * bt106.2.2.2)))) * bt106.2.1)) = (wrap64 ((wrap64 ((wrap64 (bt104.2 * bt106.2.1)) - (wrap64 (bt106.1 * x1)))) * bt106.2.2.2)) then (if bt106.2.2.2 < bt106.2.1 then (some (wrap64 (bt106.2.2.1 + (wrap64 (bt104.1 * bt106.2.2.2))), bt106.2.2.2, 0)) else (some (wrap64 (bt106.1 + (wrap64 (bt104.1 * bt106.2.1))), bt106.2.1, 0))) else (some (wrap64 (bt106.1 + (wrap64 (bt104.1 * bt106.2.1))), bt106.2.1, 0))))))
def num_Best.f (k : Nat) (a0 : Int) (a1 : Int) (a2 : Int) : Option (Int × Int × Int) := if a0 < (-1099511627776) then (num_Best.j0 k a0 a1 a2 true) else (if a0 > 1099511627776 then (num_Best.j0 k a0 a1 a2 true) else (if a1 < 1 then (num_Best.j0 k a0 a1 a2 true) else (if a1 > 1099511627776 then (num_Best.j0 k a0 a1 a2 true) else (if a2 < 1 then (num_Best.j0 k a0 a1 a2 true) else (num_Best.j0 k a0 a1 a2 (decide (a2 > 1048576)))))))
set_option maxHeartbeats 8000000 in
set_option maxRecDepth 100000 in
theorem num_Best.calls (k : Nat) (a0 : Int) (a1 : Int) (a2 : Int) (r1 : Int) (r2 : Int) (r3 : Int) (w : World) (h : num_Best.f k a0 a1 a2 = some (r1, r2, r3)) :
  Calls Tryd.prog 19 #[.int .i64 a0, .int .i64 a1, .int .i64 a2] w fun e w' => e = .returned (.tuple #[.agg #[.int .i64 r1, .int .i64 r2], .int .i64 r3]) ∧ Below w.heap.size w w' := by
 have hu23 := Tryd.underlying23
 have HB := Aside0.mk (Below.refl w.heap.size w)
 have H : (if a0 < (-1099511627776) then (num_Best.j0 k a0 a1 a2 true) else (if a0 > 1099511627776 then (num_Best.j0 k a0 a1 a2 true) else (if a1 < 1 then (num_Best.j0 k a0 a1 a2 true) else (if a1 > 1099511627776 then (num_Best.j0 k a0 a1 a2 true) else (if a2 < 1 then (num_Best.j0 k a0 a1 a2 true) else (num_Best.j0 k a0 a1 a2 (decide (a2 > 1048576)))))))) = some (r1, r2, r3) := h
 clear h
 have HC4 := Aside0.mk H
 clear H
 go_enter Tryd.func19, Tryd.ntmps19
 go_upto_region 1 with (first | ((with_reducible refine gate_dst (N := 6) rfl ?_); refine qx_ 6 #[.int .i64 0, .int .i64 0] 23 ?hr ?_; (case hr => first | (go_simp; done) | (go_simp; rfl)); intro gb103 hg w5 hbox hb; have n0_ := Aside0.mk (below_step (q0_ HB.out) hb); have n1_ := Aside0.mk (hbox); have n2_ := Aside0.mk (qs_ hg (q0_ HB.out) : w.heap.size ≤ gb103); have n3_ := n2_; clear HB; have HB := n0_; have BK103 := n1_; have GW103 := n2_; have GE103 := n3_; clear n0_ n1_ n2_ n3_; clear hb hbox hg))
 (try simp only [Act.put, List.setIfInBounds_toArray, List.set_cons_zero, List.set_cons_succ])
 go_cut [36] (fun v36 wc => ∃ (kq : Nat) (x36_3 : Bool), v36 = .bool x36_3 ∧ Aside0 (num_Best.j0 kq a0 a1 a2 x36_3 = some (r1, r2, r3)) ∧ Aside0 (kq ≤ k) ∧ Aside0 (wc.heap[gb103]? = some (.cells #[.int .i64 0, .int .i64 0] 23 (0, 0))) ∧ Aside0 (Below w.heap.size w wc))
 case first =>
  have H := HC4.out
  clear HC4
  by_cases c6 : a0 < (-1099511627776)
  ·rw [if_pos c6] at H
   have c6b0 : decide (a0 < (-1099511627776)) = true := decide_eq_true c6
   clear c6
   (first | rw [c6b0] | (simp only [i64_w, i32_w]; rw [c6b0]) | skip)
   have H' := Aside0.mk H
   clear H
   go_wp2
   go_meet
   case rel => exact ⟨_, (true), (by first | rfl | (simp; done) | (simp [*]; done)), H', ⟨by first | omega | exact Nat.le_refl _⟩, ⟨by refine qb_ ?_; exact BK103.out⟩, ⟨(q1_ HB.out GE103.out)⟩⟩
  ·rw [if_neg c6] at H
   have c6b0 : decide (a0 < (-1099511627776)) = false := decide_eq_false c6
   clear c6
   (first | rw [c6b0] | (simp only [i64_w, i32_w]; rw [c6b0]) | skip)
   by_cases c7 : a0 > 1099511627776
   ·rw [if_pos c7] at H
    have c7b0 : decide (1099511627776 < a0) = true := decide_eq_true c7
    clear c7
    have H' := Aside0.mk H
    clear H
    go_wp2
    go_meet
    case rel => exact ⟨_, (true), (by first | rfl | (simp; done) | (simp [*]; done)), H', ⟨by first | omega | exact Nat.le_refl _⟩, ⟨by refine qb_ ?_; exact BK103.out⟩, ⟨(q1_ HB.out GE103.out)⟩⟩
   ·rw [if_neg c7] at H
    have c7b0 : decide (1099511627776 < a0) = false := decide_eq_false c7
    clear c7
    by_cases c8 : a1 < 1
    ·rw [if_pos c8] at H
     have c8b0 : decide (a1 < 1) = true := decide_eq_true c8
     clear c8
     have H' := Aside0.mk H
     clear H
     go_wp2
     go_meet
     case rel => exact ⟨_, (true), (by first | rfl | (simp; done) | (simp [*]; done)), H', ⟨by first | omega | exact Nat.le_refl _⟩, ⟨by refine qb_ ?_; exact BK103.out⟩, ⟨(q1_ HB.out GE103.out)⟩⟩
    ·rw [if_neg c8] at H
     have c8b0 : decide (a1 < 1) = false := decide_eq_false c8
     clear c8
     by_cases c9 : a1 > 1099511627776
     ·rw [if_pos c9] at H
      have c9b0 : decide (1099511627776 < a1) = true := decide_eq_true c9
      clear c9
      have H' := Aside0.mk H
      clear H
      go_wp2
      go_meet
      case rel => exact ⟨_, (true), (by first | rfl | (simp; done) | (simp [*]; done)), H', ⟨by first | omega | exact Nat.le_refl _⟩, ⟨by refine qb_ ?_; exact BK103.out⟩, ⟨(q1_ HB.out GE103.out)⟩⟩
     ·rw [if_neg c9] at H
      have c9b0 : decide (1099511627776 < a1) = false := decide_eq_false c9
      clear c9
      by_cases c10 : a2 < 1
      ·rw [if_pos c10] at H
       have c10b0 : decide (a2 < 1) = true := decide_eq_true c10
       clear c10
       have H' := Aside0.mk H
       clear H
       go_wp2
       go_meet
       case rel => exact ⟨_, (true), (by first | rfl | (simp; done) | (simp [*]; done)), H', ⟨by first | omega | exact Nat.le_refl _⟩, ⟨by refine qb_ ?_; exact BK103.out⟩, ⟨(q1_ HB.out GE103.out)⟩⟩
      ·rw [if_neg c10] at H
       have c10b0 : decide (a2 < 1) = false := decide_eq_false c10
       clear c10
       have H' := Aside0.mk H
       clear H
       go_wp2
       go_meet
       case rel => exact ⟨_, (decide (a2 > 1048576)), (by first | rfl | (simp; done) | (simp [*]; done)), H', ⟨by first | omega | exact Nat.le_refl _⟩, ⟨by refine qb_ ?_; exact BK103.out⟩, ⟨(q1_ HB.out GE103.out)⟩⟩
 case rest =>
  clear HC4
  try clear c1
  try clear p2
  try clear c6
  try clear c6b0
  try clear c7
  try clear c7b0
  try clear c8
  try clear c8b0
  try clear c9
  try clear c9b0
  try clear c10
  try clear c10b0
  obtain ⟨kq, x36_3, rfl, HA, HJ3, BK103, HB⟩ := hcut
  cases kq with
  | zero => exact absurd HA.out (by simp [num_Best.j0])
  | succ kj3 =>
   have H := HA.out
   clear HA
   simp only [num_Best.j0] at H
   by_cases c11 : x36_3 = true
   ·subst c11
    have H1 : (some (0, 0, 2)) = some (r1, r2, r3) := by rw [if_pos rfl] at H; exact H
    clear H
    have H := H1
    clear H1
    simp only [Option.some.injEq, Prod.mk.injEq] at H
    obtain ⟨rfl, rfl, rfl⟩ := H
    have hcz12_0 : wc.cell? ⟨gb103, 0, none⟩ = some (.int .i64 0) := (blk_cell BK103.out 0).trans rfl
    have hcz12_1 : wc.cell? ⟨gb103, 1, none⟩ = some (.int .i64 0) := (blk_cell BK103.out 1).trans rfl
    have hfz12_0 := blk_frozen BK103.out 0
    have hfz12_1 := blk_frozen BK103.out 1
    go_wp2
    refine bodyPost_ret (results_ct rfl _ _ gb103 23 #[.int .i64 0, .int .i64 0] (0, 0) _ rfl (by refine qb_ ?_; refine blk_put (cs := #[.int .i64 0, .int .i64 0]) ?_ 1 _ rfl; refine qb_ ?_; refine blk_put (cs := #[.int .i64 0, .int .i64 0]) ?_ 0 _ rfl; refine qb_ ?_; exact BK103.out) Tryd.underlying23 rfl (by kernel_rfl)) rfl ?_
    exact ⟨by first | rfl | (simp [errW_none, errW_some] <;> rfl) | (simp [*, errW_none, errW_some] <;> rfl), (q1_ HB.out GE103.out)⟩
   ·replace c11 := Bool.eq_false_iff.mpr c11
    subst c11
    have H1 : ((num_down.f a0 a1).bind fun bt104 => ((num_around.f kj3 bt104.2 a1 a2).bind fun bt106 => (if (wrap64 ((wrap64 ((wrap64 (bt106.2.2.1 * a1)) - (wrap64 (bt104.2 * bt106.2.2.2)))) * bt106.2.1)) < (wrap64 ((wrap64 ((wrap64 (bt104.2 * bt106.2.1)) - (wrap64 (bt106.1 * a1)))) * bt106.2.2.2)) then (some (wrap64 (bt106.2.2.1 + (wrap64 (bt104.1 * bt106.2.2.2))), bt106.2.2.2, 0)) else (if (wrap64 ((wrap64 ((wrap64 (bt106.2.2.1 * a1)) - (wrap64 (bt104.2 * bt106.2.2.2)))) * bt106.2.1)) = (wrap64 ((wrap64 ((wrap64 (bt104.2 * bt106.2.1)) - (wrap64 (bt106.1 * a1)))) * bt106.2.2.2)) then (if bt106.2.2.2 < bt106.2.1 then (some (wrap64 (bt106.2.2.1 + (wrap64 (bt104.1 * bt106.2.2.2))), bt106.2.2.2, 0)) else (some (wrap64 (bt106.1 + (wrap64 (bt104.1 * bt106.2.1))), bt106.2.1, 0))) else (some (wrap64 (bt106.1 + (wrap64 (bt104.1 * bt106.2.1))), bt106.2.1, 0)))))) = some (r1, r2, r3) := by rw [if_neg (show ¬ (false = true) by decide)] at H; exact H
    clear H
    have H := H1
    clear H1
    replace H := Option.bind_eq_some_iff.mp H
    obtain ⟨⟨t104, t105⟩, A130, H⟩ := H
    replace H : ((num_around.f kj3 t105 a1 a2).bind fun bt106 => (if (wrap64 ((wrap64 ((wrap64 (bt106.2.2.1 * a1)) - (wrap64 (t105 * bt106.2.2.2)))) * bt106.2.1)) < (wrap64 ((wrap64 ((wrap64 (t105 * bt106.2.1)) - (wrap64 (bt106.1 * a1)))) * bt106.2.2.2)) then (some (wrap64 (bt106.2.2.1 + (wrap64 (t104 * bt106.2.2.2))), bt106.2.2.2, 0)) else (if (wrap64 ((wrap64 ((wrap64 (bt106.2.2.1 * a1)) - (wrap64 (t105 * bt106.2.2.2)))) * bt106.2.1)) = (wrap64 ((wrap64 ((wrap64 (t105 * bt106.2.1)) - (wrap64 (bt106.1 * a1)))) * bt106.2.2.2)) then (if bt106.2.2.2 < bt106.2.1 then (some (wrap64 (bt106.2.2.1 + (wrap64 (t104 * bt106.2.2.2))), bt106.2.2.2, 0)) else (some (wrap64 (bt106.1 + (wrap64 (t104 * bt106.2.1))), bt106.2.1, 0))) else (some (wrap64 (bt106.1 + (wrap64 (t104 * bt106.2.1))), bt106.2.1, 0))))) = some (r1, r2, r3) := H
    have A13 := Aside0.mk A130
    clear A130
    replace H := Option.bind_eq_some_iff.mp H
    obtain ⟨⟨t106, t107, t108, t109⟩, A140, H⟩ := H
    replace H : (if (wrap64 ((wrap64 ((wrap64 (t108 * a1)) - (wrap64 (t105 * t109)))) * t107)) < (wrap64 ((wrap64 ((wrap64 (t105 * t107)) - (wrap64 (t106 * a1)))) * t109)) then (some (wrap64 (t108 + (wrap64 (t104 * t109))), t109, 0)) else (if (wrap64 ((wrap64 ((wrap64 (t108 * a1)) - (wrap64 (t105 * t109)))) * t107)) = (wrap64 ((wrap64 ((wrap64 (t105 * t107)) - (wrap64 (t106 * a1)))) * t109)) then (if t109 < t107 then (some (wrap64 (t108 + (wrap64 (t104 * t109))), t109, 0)) else (some (wrap64 (t106 + (wrap64 (t104 * t107))), t107, 0))) else (some (wrap64 (t106 + (wrap64 (t104 * t107))), t107, 0)))) = some (r1, r2, r3) := H
    have A14 := Aside0.mk A140
    clear A140
    by_cases c15 : (wrap64 ((wrap64 ((wrap64 (t108 * a1)) - (wrap64 (t105 * t109)))) * t107)) < (wrap64 ((wrap64 ((wrap64 (t105 * t107)) - (wrap64 (t106 * a1)))) * t109))
    ·rw [if_pos c15] at H
     have c15b0 : decide ((wrap64 ((wrap64 ((wrap64 (t108 * a1)) - (wrap64 (t105 * t109)))) * t107)) < (wrap64 ((wrap64 ((wrap64 (t105 * t107)) - (wrap64 (t106 * a1)))) * t109))) = true := decide_eq_true c15
     clear c15
     simp only [Option.some.injEq, Prod.mk.injEq] at H
     obtain ⟨rfl, rfl, rfl⟩ := H
     go_upto_region 10 with (first | ((with_reducible refine gate_callee (f := 70) rfl ?_); refine goesL_ (some 41) rfl rfl Tryd.func70 (by kernel_rfl) rfl #[.int .i64 a0, .int .i64 a1] rfl qe_ ?_; (with_reducible refine (num_down.calls a0 a1 t104 t105 _ A13.out).mono ?_); rintro e w' ⟨rfl, ⟨nd, rfl⟩⟩; refine ⟨_, rfl, ?_⟩; (try (rw [drewN_self wc]; generalize hq_ : World.drewN wc _ = wc; have n0_ : Aside0 (wc.heap[gb103]? = some (.cells #[.int .i64 0, .int .i64 0] 23 (0, 0))) := ⟨by rw [← hq_]; exact (qb_ BK103.out)⟩; have n1_ : Aside0 (Below w.heap.size w wc) := ⟨by rw [← hq_]; exact (q1_ HB.out GE103.out)⟩; clear BK103 HB hq_; have BK103 := n0_; have HB := n1_; clear n0_ n1_))) | ((with_reducible refine gate_callee (f := 71) rfl ?_); refine goesL_ (some 48) rfl rfl Tryd.func71 (by kernel_rfl) rfl #[.int .i64 t105, .int .i64 a1, .int .i64 a2] rfl qe_ ?_; (with_reducible refine (num_around.calls kj3 t105 a1 a2 t106 t107 t108 t109 _ A14.out).mono ?_); rintro e w16 ⟨rfl, hb⟩; refine ⟨_, rfl, ?_⟩; have n0_ := Aside0.mk (qk_ BK103.out hb); have n1_ := Aside0.mk (below_step (q1_ HB.out GE103.out) hb); clear BK103; clear HB; have BK103 := n0_; have HB := n1_; clear n0_ n1_; (try clear hb); (try clear hb2); (try clear hk); (try clear hi)) | ((with_reducible refine gate_dst (N := 10) rfl ?_); refine qx_ 10 #[.int .i64 0, .int .i64 0] 23 ?hr ?_; (case hr => first | (go_simp; done) | (go_simp; rfl)); intro gb110 hg w17 hbox hb; have n0_ := Aside0.mk (qk_ BK103.out hb); have n1_ := Aside0.mk (below_step (q1_ HB.out GE103.out) hb); have n2_ := Aside0.mk (hbox); have n3_ := Aside0.mk (qs_ hg (q1_ HB.out GE103.out) : w.heap.size ≤ gb110); have n4_ := n3_; have n5_ := Aside0.mk (qn_ hg BK103.out); have n6_ := Aside0.mk (Ne.symm (qn_ hg BK103.out)); clear BK103; clear HB; have BK103 := n0_; have HB := n1_; have BK110 := n2_; have GW110 := n3_; have GE110 := n4_; have NB103_110 := n5_; have NB110_103 := n6_; clear n0_ n1_ n2_ n3_ n4_ n5_ n6_; clear hb hbox hg) | ((with_reducible refine gate_dst (N := 11) rfl ?_); refine qx_ 11 #[.int .i64 0, .int .i64 0] 23 ?hr ?_; (case hr => first | (go_simp; done) | (go_simp; rfl)); intro gb111 hg w18 hbox hb; have n0_ := Aside0.mk (qk_ BK103.out hb); have n1_ := Aside0.mk (qk_ BK110.out hb); have n2_ := Aside0.mk (below_step (q2_ HB.out GE103.out GE110.out) hb); have n3_ := Aside0.mk (hbox); have n4_ := Aside0.mk (qs_ hg (q2_ HB.out GE103.out GE110.out) : w.heap.size ≤ gb111); have n5_ := n4_; have n6_ := Aside0.mk (qn_ hg BK103.out); have n7_ := Aside0.mk (Ne.symm (qn_ hg BK103.out)); have n8_ := Aside0.mk (qn_ hg BK110.out); have n9_ := Aside0.mk (Ne.symm (qn_ hg BK110.out)); clear BK103; clear BK110; clear HB; have BK103 := n0_; have BK110 := n1_; have HB := n2_; have BK111 := n3_; have GW111 := n4_; have GE111 := n5_; have NB103_111 := n6_; have NB111_103 := n7_; have NB110_111 := n8_; have NB111_110 := n9_; clear n0_ n1_ n2_ n3_ n4_ n5_ n6_ n7_ n8_ n9_; clear hb hbox hg; have hnb19 := NB110_103.out; have hnc19 := NB103_110.out; have hnb20 := NB110_111.out; have hnc20 := NB111_110.out; have hcz21_0 : w18.cell? ⟨gb110, 0, none⟩ = some (.int .i64 0) := (blk_cell BK110.out 0).trans rfl; have hcz21_1 : w18.cell? ⟨gb110, 1, none⟩ = some (.int .i64 0) := (blk_cell BK110.out 1).trans rfl; have hfz21_0 := blk_frozen BK110.out 0; have hfz21_1 := blk_frozen BK110.out 1; have hnb22 := NB111_103.out; have hnc22 := NB103_111.out; have hcz23_0 : w18.cell? ⟨gb111, 0, none⟩ = some (.int .i64 0) := (blk_cell BK111.out 0).trans rfl; have hcz23_1 : w18.cell? ⟨gb111, 1, none⟩ = some (.int .i64 0) := (blk_cell BK111.out 1).trans rfl; have hfz23_0 := blk_frozen BK111.out 0; have hfz23_1 := blk_frozen BK111.out 1) | ((with_reducible refine gate_dst (N := 14) rfl ?_); refine qx_ 14 #[.int .i64 0, .int .i64 0] 23 ?hr ?_; (case hr => first | (go_simp; done) | (go_simp; rfl)); intro gb112 hg w24 hbox hb; have n0_ := Aside0.mk (blk_below (g := gb103) (o := .cells #[.int .i64 0, .int .i64 0] 23 (0, 0)) (by refine qb_ ?_; refine blk_far ?_ NB103_111.out _; refine qb_ ?_; refine blk_far ?_ NB103_111.out _; refine qb_ ?_; refine blk_far ?_ NB103_110.out _; refine qb_ ?_; refine blk_far ?_ NB103_110.out _; refine qb_ ?_; exact BK103.out) hb); have n1_ := Aside0.mk (blk_below (g := gb110) (o := .cells #[.int .i64 t106, .int .i64 t107] 23 (0, 0)) (by refine qb_ ?_; refine blk_far ?_ NB110_111.out _; refine qb_ ?_; refine blk_far ?_ NB110_111.out _; refine qb_ ?_; refine blk_put (cs := #[.int .i64 t106, .int .i64 0]) ?_ 1 _ rfl; refine qb_ ?_; refine blk_put (cs := #[.int .i64 0, .int .i64 0]) ?_ 0 _ rfl; refine qb_ ?_; exact BK110.out) hb); have n2_ := Aside0.mk (blk_below (g := gb111) (o := .cells #[.int .i64 t108, .int .i64 t109] 23 (0, 0)) (by refine qb_ ?_; refine blk_put (cs := #[.int .i64 t108, .int .i64 0]) ?_ 1 _ rfl; refine qb_ ?_; refine blk_put (cs := #[.int .i64 0, .int .i64 0]) ?_ 0 _ rfl; refine qb_ ?_; refine blk_far ?_ NB111_110.out _; refine qb_ ?_; refine blk_far ?_ NB111_110.out _; refine qb_ ?_; exact BK111.out) hb); have n3_ := Aside0.mk (below_step (q3_ HB.out GE103.out GE110.out GE111.out) hb); have n4_ := Aside0.mk (hbox); have n5_ := Aside0.mk (qs_ hg (q3_ HB.out GE103.out GE110.out GE111.out) : w.heap.size ≤ gb112); have n6_ := n5_; have n7_ := Aside0.mk ((by rw [hg]; exact Nat.ne_of_lt (blk_lt (g := gb103) (o := .cells #[.int .i64 0, .int .i64 0] 23 (0, 0)) (by refine qb_ ?_; refine blk_far ?_ NB103_111.out _; refine qb_ ?_; refine blk_far ?_ NB103_111.out _; refine qb_ ?_; refine blk_far ?_ NB103_110.out _; refine qb_ ?_; refine blk_far ?_ NB103_110.out _; refine qb_ ?_; exact BK103.out)) : gb103 ≠ gb112)); have n8_ := Aside0.mk ((by rw [hg]; exact Nat.ne_of_gt (blk_lt (g := gb103) (o := .cells #[.int .i64 0, .int .i64 0] 23 (0, 0)) (by refine qb_ ?_; refine blk_far ?_ NB103_111.out _; refine qb_ ?_; refine blk_far ?_ NB103_111.out _; refine qb_ ?_; refine blk_far ?_ NB103_110.out _; refine qb_ ?_; refine blk_far ?_ NB103_110.out _; refine qb_ ?_; exact BK103.out)) : gb112 ≠ gb103)); have n9_ := Aside0.mk ((by rw [hg]; exact Nat.ne_of_lt (blk_lt (g := gb110) (o := .cells #[.int .i64 t106, .int .i64 t107] 23 (0, 0)) (by refine qb_ ?_; refine blk_far ?_ NB110_111.out _; refine qb_ ?_; refine blk_far ?_ NB110_111.out _; refine qb_ ?_; refine blk_put (cs := #[.int .i64 t106, .int .i64 0]) ?_ 1 _ rfl; refine qb_ ?_; refine blk_put (cs := #[.int .i64 0, .int .i64 0]) ?_ 0 _ rfl; refine qb_ ?_; exact BK110.out)) : gb110 ≠ gb112)); have n10_ := Aside0.mk ((by rw [hg]; exact Nat.ne_of_gt (blk_lt (g := gb110) (o := .cells #[.int .i64 t106, .int .i64 t107] 23 (0, 0)) (by refine qb_ ?_; refine blk_far ?_ NB110_111.out _; refine qb_ ?_; refine blk_far ?_ NB110_111.out _; refine qb_ ?_; refine blk_put (cs := #[.int .i64 t106, .int .i64 0]) ?_ 1 _ rfl; refine qb_ ?_; refine blk_put (cs := #[.int .i64 0, .int .i64 0]) ?_ 0 _ rfl; refine qb_ ?_; exact BK110.out)) : gb112 ≠ gb110)); have n11_ := Aside0.mk ((by rw [hg]; exact Nat.ne_of_lt (blk_lt (g := gb111) (o := .cells #[.int .i64 t108, .int .i64 t109] 23 (0, 0)) (by refine qb_ ?_; refine blk_put (cs := #[.int .i64 t108, .int .i64 0]) ?_ 1 _ rfl; refine qb_ ?_; refine blk_put (cs := #[.int .i64 0, .int .i64 0]) ?_ 0 _ rfl; refine qb_ ?_; refine blk_far ?_ NB111_110.out _; refine qb_ ?_; refine blk_far ?_ NB111_110.out _; refine qb_ ?_; exact BK111.out)) : gb111 ≠ gb112)); have n12_ := Aside0.mk ((by rw [hg]; exact Nat.ne_of_gt (blk_lt (g := gb111) (o := .cells #[.int .i64 t108, .int .i64 t109] 23 (0, 0)) (by refine qb_ ?_; refine blk_put (cs := #[.int .i64 t108, .int .i64 0]) ?_ 1 _ rfl; refine qb_ ?_; refine blk_put (cs := #[.int .i64 0, .int .i64 0]) ?_ 0 _ rfl; refine qb_ ?_; refine blk_far ?_ NB111_110.out _; refine qb_ ?_; refine blk_far ?_ NB111_110.out _; refine qb_ ?_; exact BK111.out)) : gb112 ≠ gb111)); clear BK103; clear BK110; clear BK111; clear HB; have BK103 := n0_; have BK110 := n1_; have BK111 := n2_; have HB := n3_; have BK112 := n4_; have GW112 := n5_; have GE112 := n6_; have NB103_112 := n7_; have NB112_103 := n8_; have NB110_112 := n9_; have NB112_110 := n10_; have NB111_112 := n11_; have NB112_111 := n12_; clear n0_ n1_ n2_ n3_ n4_ n5_ n6_ n7_ n8_ n9_ n10_ n11_ n12_; clear hb hbox hg; have hnb25 := NB112_103.out; have hnc25 := NB103_112.out; have hnb26 := NB112_110.out; have hnc26 := NB110_112.out; have hnb27 := NB112_111.out; have hnc27 := NB111_112.out; have hcz28_0 : w24.cell? ⟨gb112, 0, none⟩ = some (.int .i64 0) := (blk_cell BK112.out 0).trans rfl; have hcz28_1 : w24.cell? ⟨gb112, 1, none⟩ = some (.int .i64 0) := (blk_cell BK112.out 1).trans rfl; have hfz28_0 := blk_frozen BK112.out 0; have hfz28_1 := blk_frozen BK112.out 1; have hcz29_0 : w24.cell? ⟨gb111, 0, none⟩ = some (.int .i64 t108) := (blk_cell BK111.out 0).trans rfl; have hcz29_1 : w24.cell? ⟨gb111, 1, none⟩ = some (.int .i64 t109) := (blk_cell BK111.out 1).trans rfl; have hfz29_0 := blk_frozen BK111.out 0; have hfz29_1 := blk_frozen BK111.out 1; have hcz30_0 : w24.cell? ⟨gb103, 0, none⟩ = some (.int .i64 0) := (blk_cell BK103.out 0).trans rfl; have hcz30_1 : w24.cell? ⟨gb103, 1, none⟩ = some (.int .i64 0) := (blk_cell BK103.out 1).trans rfl; have hfz30_0 := blk_frozen BK103.out 0; have hfz30_1 := blk_frozen BK103.out 1))
     have hX_ : ((((w24.setCell ⟨gb112, 0, none⟩ (.int .i64 t106)).setCell ⟨gb112, 1, none⟩ (.int .i64 t107)).setCell ⟨gb112, 0, none⟩ (.int .i64 t108)).setCell ⟨gb112, 1, none⟩ (.int .i64 t109)).heap[gb112]? = some (.cells #[.int .i64 t108, .int .i64 t109] 23 (0, 0)) := blk_put (cs := #[.int .i64 t108, .int .i64 t107]) (blk_put (cs := #[.int .i64 t106, .int .i64 t107]) (blk_put (cs := #[.int .i64 t106, .int .i64 0]) (blk_put (cs := #[.int .i64 0, .int .i64 0]) BK112.out 0 _ rfl) 1 _ rfl) 0 _ rfl) 1 _ rfl
     have hX0_ := (blk_cell hX_ 0).trans rfl
     have hX1_ := (blk_cell hX_ 1).trans rfl
     have hXf0_ := blk_frozen hX_ 0
     have hXf1_ := blk_frozen hX_ 1
     clear hX_
     go_wp2
     refine bodyPost_ret (results_ct rfl _ _ gb103 23 #[.int .i64 (wrap64 (t108 + (wrap64 (t104 * t109)))), .int .i64 t109] (0, 0) _ rfl (by refine qb_ ?_; refine blk_put (cs := #[.int .i64 (wrap64 (t108 + (wrap64 (t104 * t109)))), .int .i64 0]) ?_ 1 _ rfl; refine qb_ ?_; refine blk_put (cs := #[.int .i64 0, .int .i64 0]) ?_ 0 _ rfl; refine qb_ ?_; refine blk_far ?_ NB103_112.out _; refine qb_ ?_; refine blk_far ?_ NB103_112.out _; refine qb_ ?_; refine blk_far ?_ NB103_112.out _; refine qb_ ?_; refine blk_far ?_ NB103_112.out _; refine qb_ ?_; refine blk_far ?_ NB103_112.out _; refine qb_ ?_; exact BK103.out) Tryd.underlying23 rfl (by kernel_rfl)) rfl ?_
     exact ⟨by first | rfl | (simp [errW_none, errW_some] <;> rfl) | (simp [*, errW_none, errW_some] <;> rfl), (q4_ HB.out GE103.out GE110.out GE111.out GE112.out)⟩
    ·rw [if_neg c15] at H
     have c15b0 : decide ((wrap64 ((wrap64 ((wrap64 (t108 * a1)) - (wrap64 (t105 * t109)))) * t107)) < (wrap64 ((wrap64 ((wrap64 (t105 * t107)) - (wrap64 (t106 * a1)))) * t109))) = false := decide_eq_false c15
     clear c15
     by_cases c31 : (wrap64 ((wrap64 ((wrap64 (t108 * a1)) - (wrap64 (t105 * t109)))) * t107)) = (wrap64 ((wrap64 ((wrap64 (t105 * t107)) - (wrap64 (t106 * a1)))) * t109))
     ·rw [if_pos c31] at H
      have c31b0 : ((wrap64 ((wrap64 ((wrap64 (t108 * a1)) - (wrap64 (t105 * t109)))) * t107)) == (wrap64 ((wrap64 ((wrap64 (t105 * t107)) - (wrap64 (t106 * a1)))) * t109))) = true := beq_iff_eq.mpr c31
      have c31b1 : ((wrap64 ((wrap64 ((wrap64 (t108 * a1)) - (wrap64 (t105 * t109)))) * t107)) != (wrap64 ((wrap64 ((wrap64 (t105 * t107)) - (wrap64 (t106 * a1)))) * t109))) = false := bne_eq_false_iff_eq.mpr c31
      clear c31
      by_cases c32 : t109 < t107
      ·rw [if_pos c32] at H
       have c32b0 : decide (t109 < t107) = true := decide_eq_true c32
       clear c32
       simp only [Option.some.injEq, Prod.mk.injEq] at H
       obtain ⟨rfl, rfl, rfl⟩ := H
       go_upto_region 10 with (first | ((with_reducible refine gate_callee (f := 70) rfl ?_); refine goesL_ (some 41) rfl rfl Tryd.func70 (by kernel_rfl) rfl #[.int .i64 a0, .int .i64 a1] rfl qe_ ?_; (with_reducible refine (num_down.calls a0 a1 t104 t105 _ A13.out).mono ?_); rintro e w' ⟨rfl, ⟨nd, rfl⟩⟩; refine ⟨_, rfl, ?_⟩; (try (rw [drewN_self wc]; generalize hq_ : World.drewN wc _ = wc; have n0_ : Aside0 (wc.heap[gb103]? = some (.cells #[.int .i64 0, .int .i64 0] 23 (0, 0))) := ⟨by rw [← hq_]; exact (qb_ BK103.out)⟩; have n1_ : Aside0 (Below w.heap.size w wc) := ⟨by rw [← hq_]; exact (q1_ HB.out GE103.out)⟩; clear BK103 HB hq_; have BK103 := n0_; have HB := n1_; clear n0_ n1_))) | ((with_reducible refine gate_callee (f := 71) rfl ?_); refine goesL_ (some 48) rfl rfl Tryd.func71 (by kernel_rfl) rfl #[.int .i64 t105, .int .i64 a1, .int .i64 a2] rfl qe_ ?_; (with_reducible refine (num_around.calls kj3 t105 a1 a2 t106 t107 t108 t109 _ A14.out).mono ?_); rintro e w33 ⟨rfl, hb⟩; refine ⟨_, rfl, ?_⟩; have n0_ := Aside0.mk (qk_ BK103.out hb); have n1_ := Aside0.mk (below_step (q1_ HB.out GE103.out) hb); clear BK103; clear HB; have BK103 := n0_; have HB := n1_; clear n0_ n1_; (try clear hb); (try clear hb2); (try clear hk); (try clear hi)) | ((with_reducible refine gate_dst (N := 10) rfl ?_); refine qx_ 10 #[.int .i64 0, .int .i64 0] 23 ?hr ?_; (case hr => first | (go_simp; done) | (go_simp; rfl)); intro gb110 hg w34 hbox hb; have n0_ := Aside0.mk (qk_ BK103.out hb); have n1_ := Aside0.mk (below_step (q1_ HB.out GE103.out) hb); have n2_ := Aside0.mk (hbox); have n3_ := Aside0.mk (qs_ hg (q1_ HB.out GE103.out) : w.heap.size ≤ gb110); have n4_ := n3_; have n5_ := Aside0.mk (qn_ hg BK103.out); have n6_ := Aside0.mk (Ne.symm (qn_ hg BK103.out)); clear BK103; clear HB; have BK103 := n0_; have HB := n1_; have BK110 := n2_; have GW110 := n3_; have GE110 := n4_; have NB103_110 := n5_; have NB110_103 := n6_; clear n0_ n1_ n2_ n3_ n4_ n5_ n6_; clear hb hbox hg) | ((with_reducible refine gate_dst (N := 11) rfl ?_); refine qx_ 11 #[.int .i64 0, .int .i64 0] 23 ?hr ?_; (case hr => first | (go_simp; done) | (go_simp; rfl)); intro gb111 hg w35 hbox hb; have n0_ := Aside0.mk (qk_ BK103.out hb); have n1_ := Aside0.mk (qk_ BK110.out hb); have n2_ := Aside0.mk (below_step (q2_ HB.out GE103.out GE110.out) hb); have n3_ := Aside0.mk (hbox); have n4_ := Aside0.mk (qs_ hg (q2_ HB.out GE103.out GE110.out) : w.heap.size ≤ gb111); have n5_ := n4_; have n6_ := Aside0.mk (qn_ hg BK103.out); have n7_ := Aside0.mk (Ne.symm (qn_ hg BK103.out)); have n8_ := Aside0.mk (qn_ hg BK110.out); have n9_ := Aside0.mk (Ne.symm (qn_ hg BK110.out)); clear BK103; clear BK110; clear HB; have BK103 := n0_; have BK110 := n1_; have HB := n2_; have BK111 := n3_; have GW111 := n4_; have GE111 := n5_; have NB103_111 := n6_; have NB111_103 := n7_; have NB110_111 := n8_; have NB111_110 := n9_; clear n0_ n1_ n2_ n3_ n4_ n5_ n6_ n7_ n8_ n9_; clear hb hbox hg; have hnb36 := NB110_103.out; have hnc36 := NB103_110.out; have hnb37 := NB110_111.out; have hnc37 := NB111_110.out; have hcz38_0 : w35.cell? ⟨gb110, 0, none⟩ = some (.int .i64 0) := (blk_cell BK110.out 0).trans rfl; have hcz38_1 : w35.cell? ⟨gb110, 1, none⟩ = some (.int .i64 0) := (blk_cell BK110.out 1).trans rfl; have hfz38_0 := blk_frozen BK110.out 0; have hfz38_1 := blk_frozen BK110.out 1; have hnb39 := NB111_103.out; have hnc39 := NB103_111.out; have hcz40_0 : w35.cell? ⟨gb111, 0, none⟩ = some (.int .i64 0) := (blk_cell BK111.out 0).trans rfl; have hcz40_1 : w35.cell? ⟨gb111, 1, none⟩ = some (.int .i64 0) := (blk_cell BK111.out 1).trans rfl; have hfz40_0 := blk_frozen BK111.out 0; have hfz40_1 := blk_frozen BK111.out 1) | ((with_reducible refine gate_dst (N := 14) rfl ?_); refine qx_ 14 #[.int .i64 0, .int .i64 0] 23 ?hr ?_; (case hr => first | (go_simp; done) | (go_simp; rfl)); intro gb112 hg w41 hbox hb; have n0_ := Aside0.mk (blk_below (g := gb103) (o := .cells #[.int .i64 0, .int .i64 0] 23 (0, 0)) (by refine qb_ ?_; refine blk_far ?_ NB103_111.out _; refine qb_ ?_; refine blk_far ?_ NB103_111.out _; refine qb_ ?_; refine blk_far ?_ NB103_110.out _; refine qb_ ?_; refine blk_far ?_ NB103_110.out _; refine qb_ ?_; exact BK103.out) hb); have n1_ := Aside0.mk (blk_below (g := gb110) (o := .cells #[.int .i64 t106, .int .i64 t107] 23 (0, 0)) (by refine qb_ ?_; refine blk_far ?_ NB110_111.out _; refine qb_ ?_; refine blk_far ?_ NB110_111.out _; refine qb_ ?_; refine blk_put (cs := #[.int .i64 t106, .int .i64 0]) ?_ 1 _ rfl; refine qb_ ?_; refine blk_put (cs := #[.int .i64 0, .int .i64 0]) ?_ 0 _ rfl; refine qb_ ?_; exact BK110.out) hb); have n2_ := Aside0.mk (blk_below (g := gb111) (o := .cells #[.int .i64 t108, .int .i64 t109] 23 (0, 0)) (by refine qb_ ?_; refine blk_put (cs := #[.int .i64 t108, .int .i64 0]) ?_ 1 _ rfl; refine qb_ ?_; refine blk_put (cs := #[.int .i64 0, .int .i64 0]) ?_ 0 _ rfl; refine qb_ ?_; refine blk_far ?_ NB111_110.out _; refine qb_ ?_; refine blk_far ?_ NB111_110.out _; refine qb_ ?_; exact BK111.out) hb); have n3_ := Aside0.mk (below_step (q3_ HB.out GE103.out GE110.out GE111.out) hb); have n4_ := Aside0.mk (hbox); have n5_ := Aside0.mk (qs_ hg (q3_ HB.out GE103.out GE110.out GE111.out) : w.heap.size ≤ gb112); have n6_ := n5_; have n7_ := Aside0.mk ((by rw [hg]; exact Nat.ne_of_lt (blk_lt (g := gb103) (o := .cells #[.int .i64 0, .int .i64 0] 23 (0, 0)) (by refine qb_ ?_; refine blk_far ?_ NB103_111.out _; refine qb_ ?_; refine blk_far ?_ NB103_111.out _; refine qb_ ?_; refine blk_far ?_ NB103_110.out _; refine qb_ ?_; refine blk_far ?_ NB103_110.out _; refine qb_ ?_; exact BK103.out)) : gb103 ≠ gb112)); have n8_ := Aside0.mk ((by rw [hg]; exact Nat.ne_of_gt (blk_lt (g := gb103) (o := .cells #[.int .i64 0, .int .i64 0] 23 (0, 0)) (by refine qb_ ?_; refine blk_far ?_ NB103_111.out _; refine qb_ ?_; refine blk_far ?_ NB103_111.out _; refine qb_ ?_; refine blk_far ?_ NB103_110.out _; refine qb_ ?_; refine blk_far ?_ NB103_110.out _; refine qb_ ?_; exact BK103.out)) : gb112 ≠ gb103)); have n9_ := Aside0.mk ((by rw [hg]; exact Nat.ne_of_lt (blk_lt (g := gb110) (o := .cells #[.int .i64 t106, .int .i64 t107] 23 (0, 0)) (by refine qb_ ?_; refine blk_far ?_ NB110_111.out _; refine qb_ ?_; refine blk_far ?_ NB110_111.out _; refine qb_ ?_; refine blk_put (cs := #[.int .i64 t106, .int .i64 0]) ?_ 1 _ rfl; refine qb_ ?_; refine blk_put (cs := #[.int .i64 0, .int .i64 0]) ?_ 0 _ rfl; refine qb_ ?_; exact BK110.out)) : gb110 ≠ gb112)); have n10_ := Aside0.mk ((by rw [hg]; exact Nat.ne_of_gt (blk_lt (g := gb110) (o := .cells #[.int .i64 t106, .int .i64 t107] 23 (0, 0)) (by refine qb_ ?_; refine blk_far ?_ NB110_111.out _; refine qb_ ?_; refine blk_far ?_ NB110_111.out _; refine qb_ ?_; refine blk_put (cs := #[.int .i64 t106, .int .i64 0]) ?_ 1 _ rfl; refine qb_ ?_; refine blk_put (cs := #[.int .i64 0, .int .i64 0]) ?_ 0 _ rfl; refine qb_ ?_; exact BK110.out)) : gb112 ≠ gb110)); have n11_ := Aside0.mk ((by rw [hg]; exact Nat.ne_of_lt (blk_lt (g := gb111) (o := .cells #[.int .i64 t108, .int .i64 t109] 23 (0, 0)) (by refine qb_ ?_; refine blk_put (cs := #[.int .i64 t108, .int .i64 0]) ?_ 1 _ rfl; refine qb_ ?_; refine blk_put (cs := #[.int .i64 0, .int .i64 0]) ?_ 0 _ rfl; refine qb_ ?_; refine blk_far ?_ NB111_110.out _; refine qb_ ?_; refine blk_far ?_ NB111_110.out _; refine qb_ ?_; exact BK111.out)) : gb111 ≠ gb112)); have n12_ := Aside0.mk ((by rw [hg]; exact Nat.ne_of_gt (blk_lt (g := gb111) (o := .cells #[.int .i64 t108, .int .i64 t109] 23 (0, 0)) (by refine qb_ ?_; refine blk_put (cs := #[.int .i64 t108, .int .i64 0]) ?_ 1 _ rfl; refine qb_ ?_; refine blk_put (cs := #[.int .i64 0, .int .i64 0]) ?_ 0 _ rfl; refine qb_ ?_; refine blk_far ?_ NB111_110.out _; refine qb_ ?_; refine blk_far ?_ NB111_110.out _; refine qb_ ?_; exact BK111.out)) : gb112 ≠ gb111)); clear BK103; clear BK110; clear BK111; clear HB; have BK103 := n0_; have BK110 := n1_; have BK111 := n2_; have HB := n3_; have BK112 := n4_; have GW112 := n5_; have GE112 := n6_; have NB103_112 := n7_; have NB112_103 := n8_; have NB110_112 := n9_; have NB112_110 := n10_; have NB111_112 := n11_; have NB112_111 := n12_; clear n0_ n1_ n2_ n3_ n4_ n5_ n6_ n7_ n8_ n9_ n10_ n11_ n12_; clear hb hbox hg; have hnb42 := NB112_103.out; have hnc42 := NB103_112.out; have hnb43 := NB112_110.out; have hnc43 := NB110_112.out; have hnb44 := NB112_111.out; have hnc44 := NB111_112.out; have hcz45_0 : w41.cell? ⟨gb112, 0, none⟩ = some (.int .i64 0) := (blk_cell BK112.out 0).trans rfl; have hcz45_1 : w41.cell? ⟨gb112, 1, none⟩ = some (.int .i64 0) := (blk_cell BK112.out 1).trans rfl; have hfz45_0 := blk_frozen BK112.out 0; have hfz45_1 := blk_frozen BK112.out 1; have hcz46_0 : w41.cell? ⟨gb111, 0, none⟩ = some (.int .i64 t108) := (blk_cell BK111.out 0).trans rfl; have hcz46_1 : w41.cell? ⟨gb111, 1, none⟩ = some (.int .i64 t109) := (blk_cell BK111.out 1).trans rfl; have hfz46_0 := blk_frozen BK111.out 0; have hfz46_1 := blk_frozen BK111.out 1; have hcz47_0 : w41.cell? ⟨gb110, 0, none⟩ = some (.int .i64 t106) := (blk_cell BK110.out 0).trans rfl; have hcz47_1 : w41.cell? ⟨gb110, 1, none⟩ = some (.int .i64 t107) := (blk_cell BK110.out 1).trans rfl; have hfz47_0 := blk_frozen BK110.out 0; have hfz47_1 := blk_frozen BK110.out 1; have hcz48_0 : w41.cell? ⟨gb103, 0, none⟩ = some (.int .i64 0) := (blk_cell BK103.out 0).trans rfl; have hcz48_1 : w41.cell? ⟨gb103, 1, none⟩ = some (.int .i64 0) := (blk_cell BK103.out 1).trans rfl; have hfz48_0 := blk_frozen BK103.out 0; have hfz48_1 := blk_frozen BK103.out 1))
       have hX_ : ((((w41.setCell ⟨gb112, 0, none⟩ (.int .i64 t106)).setCell ⟨gb112, 1, none⟩ (.int .i64 t107)).setCell ⟨gb112, 0, none⟩ (.int .i64 t108)).setCell ⟨gb112, 1, none⟩ (.int .i64 t109)).heap[gb112]? = some (.cells #[.int .i64 t108, .int .i64 t109] 23 (0, 0)) := blk_put (cs := #[.int .i64 t108, .int .i64 t107]) (blk_put (cs := #[.int .i64 t106, .int .i64 t107]) (blk_put (cs := #[.int .i64 t106, .int .i64 0]) (blk_put (cs := #[.int .i64 0, .int .i64 0]) BK112.out 0 _ rfl) 1 _ rfl) 0 _ rfl) 1 _ rfl
       have hX0_ := (blk_cell hX_ 0).trans rfl
       have hX1_ := (blk_cell hX_ 1).trans rfl
       have hXf0_ := blk_frozen hX_ 0
       have hXf1_ := blk_frozen hX_ 1
       clear hX_
       go_wp2
       refine bodyPost_ret (results_ct rfl _ _ gb103 23 #[.int .i64 (wrap64 (t108 + (wrap64 (t104 * t109)))), .int .i64 t109] (0, 0) _ rfl (by refine qb_ ?_; refine blk_put (cs := #[.int .i64 (wrap64 (t108 + (wrap64 (t104 * t109)))), .int .i64 0]) ?_ 1 _ rfl; refine qb_ ?_; refine blk_put (cs := #[.int .i64 0, .int .i64 0]) ?_ 0 _ rfl; refine qb_ ?_; refine blk_far ?_ NB103_112.out _; refine qb_ ?_; refine blk_far ?_ NB103_112.out _; refine qb_ ?_; refine blk_far ?_ NB103_112.out _; refine qb_ ?_; refine blk_far ?_ NB103_112.out _; refine qb_ ?_; refine blk_far ?_ NB103_112.out _; refine qb_ ?_; exact BK103.out) Tryd.underlying23 rfl (by kernel_rfl)) rfl ?_
       exact ⟨by first | rfl | (simp [errW_none, errW_some] <;> rfl) | (simp [*, errW_none, errW_some] <;> rfl), (q4_ HB.out GE103.out GE110.out GE111.out GE112.out)⟩
      ·rw [if_neg c32] at H
       have c32b0 : decide (t109 < t107) = false := decide_eq_false c32
       clear c32
       simp only [Option.some.injEq, Prod.mk.injEq] at H
       obtain ⟨rfl, rfl, rfl⟩ := H
       go_wp2_with (first | ((with_reducible refine gate_callee (f := 70) rfl ?_); refine goesL_ (some 41) rfl rfl Tryd.func70 (by kernel_rfl) rfl #[.int .i64 a0, .int .i64 a1] rfl qe_ ?_; (with_reducible refine (num_down.calls a0 a1 t104 t105 _ A13.out).mono ?_); rintro e w' ⟨rfl, ⟨nd, rfl⟩⟩; refine ⟨_, rfl, ?_⟩; (try (rw [drewN_self wc]; generalize hq_ : World.drewN wc _ = wc; have n0_ : Aside0 (wc.heap[gb103]? = some (.cells #[.int .i64 0, .int .i64 0] 23 (0, 0))) := ⟨by rw [← hq_]; exact (qb_ BK103.out)⟩; have n1_ : Aside0 (Below w.heap.size w wc) := ⟨by rw [← hq_]; exact (q1_ HB.out GE103.out)⟩; clear BK103 HB hq_; have BK103 := n0_; have HB := n1_; clear n0_ n1_))) | ((with_reducible refine gate_callee (f := 71) rfl ?_); refine goesL_ (some 48) rfl rfl Tryd.func71 (by kernel_rfl) rfl #[.int .i64 t105, .int .i64 a1, .int .i64 a2] rfl qe_ ?_; (with_reducible refine (num_around.calls kj3 t105 a1 a2 t106 t107 t108 t109 _ A14.out).mono ?_); rintro e w49 ⟨rfl, hb⟩; refine ⟨_, rfl, ?_⟩; have n0_ := Aside0.mk (qk_ BK103.out hb); have n1_ := Aside0.mk (below_step (q1_ HB.out GE103.out) hb); clear BK103; clear HB; have BK103 := n0_; have HB := n1_; clear n0_ n1_; (try clear hb); (try clear hb2); (try clear hk); (try clear hi)) | ((with_reducible refine gate_dst (N := 10) rfl ?_); refine qx_ 10 #[.int .i64 0, .int .i64 0] 23 ?hr ?_; (case hr => first | (go_simp; done) | (go_simp; rfl)); intro gb110 hg w50 hbox hb; have n0_ := Aside0.mk (qk_ BK103.out hb); have n1_ := Aside0.mk (below_step (q1_ HB.out GE103.out) hb); have n2_ := Aside0.mk (hbox); have n3_ := Aside0.mk (qs_ hg (q1_ HB.out GE103.out) : w.heap.size ≤ gb110); have n4_ := n3_; have n5_ := Aside0.mk (qn_ hg BK103.out); have n6_ := Aside0.mk (Ne.symm (qn_ hg BK103.out)); clear BK103; clear HB; have BK103 := n0_; have HB := n1_; have BK110 := n2_; have GW110 := n3_; have GE110 := n4_; have NB103_110 := n5_; have NB110_103 := n6_; clear n0_ n1_ n2_ n3_ n4_ n5_ n6_; clear hb hbox hg) | ((with_reducible refine gate_dst (N := 11) rfl ?_); refine qx_ 11 #[.int .i64 0, .int .i64 0] 23 ?hr ?_; (case hr => first | (go_simp; done) | (go_simp; rfl)); intro gb111 hg w51 hbox hb; have n0_ := Aside0.mk (qk_ BK103.out hb); have n1_ := Aside0.mk (qk_ BK110.out hb); have n2_ := Aside0.mk (below_step (q2_ HB.out GE103.out GE110.out) hb); have n3_ := Aside0.mk (hbox); have n4_ := Aside0.mk (qs_ hg (q2_ HB.out GE103.out GE110.out) : w.heap.size ≤ gb111); have n5_ := n4_; have n6_ := Aside0.mk (qn_ hg BK103.out); have n7_ := Aside0.mk (Ne.symm (qn_ hg BK103.out)); have n8_ := Aside0.mk (qn_ hg BK110.out); have n9_ := Aside0.mk (Ne.symm (qn_ hg BK110.out)); clear BK103; clear BK110; clear HB; have BK103 := n0_; have BK110 := n1_; have HB := n2_; have BK111 := n3_; have GW111 := n4_; have GE111 := n5_; have NB103_111 := n6_; have NB111_103 := n7_; have NB110_111 := n8_; have NB111_110 := n9_; clear n0_ n1_ n2_ n3_ n4_ n5_ n6_ n7_ n8_ n9_; clear hb hbox hg; have hnb52 := NB110_103.out; have hnc52 := NB103_110.out; have hnb53 := NB110_111.out; have hnc53 := NB111_110.out; have hcz54_0 : w51.cell? ⟨gb110, 0, none⟩ = some (.int .i64 0) := (blk_cell BK110.out 0).trans rfl; have hcz54_1 : w51.cell? ⟨gb110, 1, none⟩ = some (.int .i64 0) := (blk_cell BK110.out 1).trans rfl; have hfz54_0 := blk_frozen BK110.out 0; have hfz54_1 := blk_frozen BK110.out 1; have hnb55 := NB111_103.out; have hnc55 := NB103_111.out; have hcz56_0 : w51.cell? ⟨gb111, 0, none⟩ = some (.int .i64 0) := (blk_cell BK111.out 0).trans rfl; have hcz56_1 : w51.cell? ⟨gb111, 1, none⟩ = some (.int .i64 0) := (blk_cell BK111.out 1).trans rfl; have hfz56_0 := blk_frozen BK111.out 0; have hfz56_1 := blk_frozen BK111.out 1) | ((with_reducible refine gate_dst (N := 14) rfl ?_); refine qx_ 14 #[.int .i64 0, .int .i64 0] 23 ?hr ?_; (case hr => first | (go_simp; done) | (go_simp; rfl)); intro gb112 hg w57 hbox hb; have n0_ := Aside0.mk (blk_below (g := gb103) (o := .cells #[.int .i64 0, .int .i64 0] 23 (0, 0)) (by refine qb_ ?_; refine blk_far ?_ NB103_111.out _; refine qb_ ?_; refine blk_far ?_ NB103_111.out _; refine qb_ ?_; refine blk_far ?_ NB103_110.out _; refine qb_ ?_; refine blk_far ?_ NB103_110.out _; refine qb_ ?_; exact BK103.out) hb); have n1_ := Aside0.mk (blk_below (g := gb110) (o := .cells #[.int .i64 t106, .int .i64 t107] 23 (0, 0)) (by refine qb_ ?_; refine blk_far ?_ NB110_111.out _; refine qb_ ?_; refine blk_far ?_ NB110_111.out _; refine qb_ ?_; refine blk_put (cs := #[.int .i64 t106, .int .i64 0]) ?_ 1 _ rfl; refine qb_ ?_; refine blk_put (cs := #[.int .i64 0, .int .i64 0]) ?_ 0 _ rfl; refine qb_ ?_; exact BK110.out) hb); have n2_ := Aside0.mk (blk_below (g := gb111) (o := .cells #[.int .i64 t108, .int .i64 t109] 23 (0, 0)) (by refine qb_ ?_; refine blk_put (cs := #[.int .i64 t108, .int .i64 0]) ?_ 1 _ rfl; refine qb_ ?_; refine blk_put (cs := #[.int .i64 0, .int .i64 0]) ?_ 0 _ rfl; refine qb_ ?_; refine blk_far ?_ NB111_110.out _; refine qb_ ?_; refine blk_far ?_ NB111_110.out _; refine qb_ ?_; exact BK111.out) hb); have n3_ := Aside0.mk (below_step (q3_ HB.out GE103.out GE110.out GE111.out) hb); have n4_ := Aside0.mk (hbox); have n5_ := Aside0.mk (qs_ hg (q3_ HB.out GE103.out GE110.out GE111.out) : w.heap.size ≤ gb112); have n6_ := n5_; have n7_ := Aside0.mk ((by rw [hg]; exact Nat.ne_of_lt (blk_lt (g := gb103) (o := .cells #[.int .i64 0, .int .i64 0] 23 (0, 0)) (by refine qb_ ?_; refine blk_far ?_ NB103_111.out _; refine qb_ ?_; refine blk_far ?_ NB103_111.out _; refine qb_ ?_; refine blk_far ?_ NB103_110.out _; refine qb_ ?_; refine blk_far ?_ NB103_110.out _; refine qb_ ?_; exact BK103.out)) : gb103 ≠ gb112)); have n8_ := Aside0.mk ((by rw [hg]; exact Nat.ne_of_gt (blk_lt (g := gb103) (o := .cells #[.int .i64 0, .int .i64 0] 23 (0, 0)) (by refine qb_ ?_; refine blk_far ?_ NB103_111.out _; refine qb_ ?_; refine blk_far ?_ NB103_111.out _; refine qb_ ?_; refine blk_far ?_ NB103_110.out _; refine qb_ ?_; refine blk_far ?_ NB103_110.out _; refine qb_ ?_; exact BK103.out)) : gb112 ≠ gb103)); have n9_ := Aside0.mk ((by rw [hg]; exact Nat.ne_of_lt (blk_lt (g := gb110) (o := .cells #[.int .i64 t106, .int .i64 t107] 23 (0, 0)) (by refine qb_ ?_; refine blk_far ?_ NB110_111.out _; refine qb_ ?_; refine blk_far ?_ NB110_111.out _; refine qb_ ?_; refine blk_put (cs := #[.int .i64 t106, .int .i64 0]) ?_ 1 _ rfl; refine qb_ ?_; refine blk_put (cs := #[.int .i64 0, .int .i64 0]) ?_ 0 _ rfl; refine qb_ ?_; exact BK110.out)) : gb110 ≠ gb112)); have n10_ := Aside0.mk ((by rw [hg]; exact Nat.ne_of_gt (blk_lt (g := gb110) (o := .cells #[.int .i64 t106, .int .i64 t107] 23 (0, 0)) (by refine qb_ ?_; refine blk_far ?_ NB110_111.out _; refine qb_ ?_; refine blk_far ?_ NB110_111.out _; refine qb_ ?_; refine blk_put (cs := #[.int .i64 t106, .int .i64 0]) ?_ 1 _ rfl; refine qb_ ?_; refine blk_put (cs := #[.int .i64 0, .int .i64 0]) ?_ 0 _ rfl; refine qb_ ?_; exact BK110.out)) : gb112 ≠ gb110)); have n11_ := Aside0.mk ((by rw [hg]; exact Nat.ne_of_lt (blk_lt (g := gb111) (o := .cells #[.int .i64 t108, .int .i64 t109] 23 (0, 0)) (by refine qb_ ?_; refine blk_put (cs := #[.int .i64 t108, .int .i64 0]) ?_ 1 _ rfl; refine qb_ ?_; refine blk_put (cs := #[.int .i64 0, .int .i64 0]) ?_ 0 _ rfl; refine qb_ ?_; refine blk_far ?_ NB111_110.out _; refine qb_ ?_; refine blk_far ?_ NB111_110.out _; refine qb_ ?_; exact BK111.out)) : gb111 ≠ gb112)); have n12_ := Aside0.mk ((by rw [hg]; exact Nat.ne_of_gt (blk_lt (g := gb111) (o := .cells #[.int .i64 t108, .int .i64 t109] 23 (0, 0)) (by refine qb_ ?_; refine blk_put (cs := #[.int .i64 t108, .int .i64 0]) ?_ 1 _ rfl; refine qb_ ?_; refine blk_put (cs := #[.int .i64 0, .int .i64 0]) ?_ 0 _ rfl; refine qb_ ?_; refine blk_far ?_ NB111_110.out _; refine qb_ ?_; refine blk_far ?_ NB111_110.out _; refine qb_ ?_; exact BK111.out)) : gb112 ≠ gb111)); clear BK103; clear BK110; clear BK111; clear HB; have BK103 := n0_; have BK110 := n1_; have BK111 := n2_; have HB := n3_; have BK112 := n4_; have GW112 := n5_; have GE112 := n6_; have NB103_112 := n7_; have NB112_103 := n8_; have NB110_112 := n9_; have NB112_110 := n10_; have NB111_112 := n11_; have NB112_111 := n12_; clear n0_ n1_ n2_ n3_ n4_ n5_ n6_ n7_ n8_ n9_ n10_ n11_ n12_; clear hb hbox hg; have hnb58 := NB112_103.out; have hnc58 := NB103_112.out; have hnb59 := NB112_110.out; have hnc59 := NB110_112.out; have hnb60 := NB112_111.out; have hnc60 := NB111_112.out; have hcz61_0 : w57.cell? ⟨gb112, 0, none⟩ = some (.int .i64 0) := (blk_cell BK112.out 0).trans rfl; have hcz61_1 : w57.cell? ⟨gb112, 1, none⟩ = some (.int .i64 0) := (blk_cell BK112.out 1).trans rfl; have hfz61_0 := blk_frozen BK112.out 0; have hfz61_1 := blk_frozen BK112.out 1; have hcz62_0 : w57.cell? ⟨gb111, 0, none⟩ = some (.int .i64 t108) := (blk_cell BK111.out 0).trans rfl; have hcz62_1 : w57.cell? ⟨gb111, 1, none⟩ = some (.int .i64 t109) := (blk_cell BK111.out 1).trans rfl; have hfz62_0 := blk_frozen BK111.out 0; have hfz62_1 := blk_frozen BK111.out 1; have hcz63_0 : w57.cell? ⟨gb110, 0, none⟩ = some (.int .i64 t106) := (blk_cell BK110.out 0).trans rfl; have hcz63_1 : w57.cell? ⟨gb110, 1, none⟩ = some (.int .i64 t107) := (blk_cell BK110.out 1).trans rfl; have hfz63_0 := blk_frozen BK110.out 0; have hfz63_1 := blk_frozen BK110.out 1; have hcz64_0 : w57.cell? ⟨gb103, 0, none⟩ = some (.int .i64 0) := (blk_cell BK103.out 0).trans rfl; have hcz64_1 : w57.cell? ⟨gb103, 1, none⟩ = some (.int .i64 0) := (blk_cell BK103.out 1).trans rfl; have hfz64_0 := blk_frozen BK103.out 0; have hfz64_1 := blk_frozen BK103.out 1))
       refine bodyPost_ret (results_ct rfl _ _ gb103 23 #[.int .i64 (wrap64 (t106 + (wrap64 (t104 * t107)))), .int .i64 t107] (0, 0) _ rfl (by refine qb_ ?_; refine blk_put (cs := #[.int .i64 (wrap64 (t106 + (wrap64 (t104 * t107)))), .int .i64 0]) ?_ 1 _ rfl; refine qb_ ?_; refine blk_put (cs := #[.int .i64 0, .int .i64 0]) ?_ 0 _ rfl; refine qb_ ?_; refine blk_far ?_ NB103_112.out _; refine qb_ ?_; refine blk_far ?_ NB103_112.out _; refine qb_ ?_; refine blk_far ?_ NB103_112.out _; refine qb_ ?_; exact BK103.out) Tryd.underlying23 rfl (by kernel_rfl)) rfl ?_
       exact ⟨by first | rfl | (simp [errW_none, errW_some] <;> rfl) | (simp [*, errW_none, errW_some] <;> rfl), (q4_ HB.out GE103.out GE110.out GE111.out GE112.out)⟩
     ·rw [if_neg c31] at H
      have c31b0 : ((wrap64 ((wrap64 ((wrap64 (t108 * a1)) - (wrap64 (t105 * t109)))) * t107)) == (wrap64 ((wrap64 ((wrap64 (t105 * t107)) - (wrap64 (t106 * a1)))) * t109))) = false := beq_eq_false_iff_ne.mpr c31
      have c31b1 : ((wrap64 ((wrap64 ((wrap64 (t108 * a1)) - (wrap64 (t105 * t109)))) * t107)) != (wrap64 ((wrap64 ((wrap64 (t105 * t107)) - (wrap64 (t106 * a1)))) * t109))) = true := bne_iff_ne.mpr c31
      simp only [Option.some.injEq, Prod.mk.injEq] at H
      obtain ⟨rfl, rfl, rfl⟩ := H
      go_wp2_with (first | ((with_reducible refine gate_callee (f := 70) rfl ?_); refine goesL_ (some 41) rfl rfl Tryd.func70 (by kernel_rfl) rfl #[.int .i64 a0, .int .i64 a1] rfl qe_ ?_; (with_reducible refine (num_down.calls a0 a1 t104 t105 _ A13.out).mono ?_); rintro e w' ⟨rfl, ⟨nd, rfl⟩⟩; refine ⟨_, rfl, ?_⟩; (try (rw [drewN_self wc]; generalize hq_ : World.drewN wc _ = wc; have n0_ : Aside0 (wc.heap[gb103]? = some (.cells #[.int .i64 0, .int .i64 0] 23 (0, 0))) := ⟨by rw [← hq_]; exact (qb_ BK103.out)⟩; have n1_ : Aside0 (Below w.heap.size w wc) := ⟨by rw [← hq_]; exact (q1_ HB.out GE103.out)⟩; clear BK103 HB hq_; have BK103 := n0_; have HB := n1_; clear n0_ n1_))) | ((with_reducible refine gate_callee (f := 71) rfl ?_); refine goesL_ (some 48) rfl rfl Tryd.func71 (by kernel_rfl) rfl #[.int .i64 t105, .int .i64 a1, .int .i64 a2] rfl qe_ ?_; (with_reducible refine (num_around.calls kj3 t105 a1 a2 t106 t107 t108 t109 _ A14.out).mono ?_); rintro e w65 ⟨rfl, hb⟩; refine ⟨_, rfl, ?_⟩; have n0_ := Aside0.mk (qk_ BK103.out hb); have n1_ := Aside0.mk (below_step (q1_ HB.out GE103.out) hb); clear BK103; clear HB; have BK103 := n0_; have HB := n1_; clear n0_ n1_; (try clear hb); (try clear hb2); (try clear hk); (try clear hi)) | ((with_reducible refine gate_dst (N := 10) rfl ?_); refine qx_ 10 #[.int .i64 0, .int .i64 0] 23 ?hr ?_; (case hr => first | (go_simp; done) | (go_simp; rfl)); intro gb110 hg w66 hbox hb; have n0_ := Aside0.mk (qk_ BK103.out hb); have n1_ := Aside0.mk (below_step (q1_ HB.out GE103.out) hb); have n2_ := Aside0.mk (hbox); have n3_ := Aside0.mk (qs_ hg (q1_ HB.out GE103.out) : w.heap.size ≤ gb110); have n4_ := n3_; have n5_ := Aside0.mk (qn_ hg BK103.out); have n6_ := Aside0.mk (Ne.symm (qn_ hg BK103.out)); clear BK103; clear HB; have BK103 := n0_; have HB := n1_; have BK110 := n2_; have GW110 := n3_; have GE110 := n4_; have NB103_110 := n5_; have NB110_103 := n6_; clear n0_ n1_ n2_ n3_ n4_ n5_ n6_; clear hb hbox hg) | ((with_reducible refine gate_dst (N := 11) rfl ?_); refine qx_ 11 #[.int .i64 0, .int .i64 0] 23 ?hr ?_; (case hr => first | (go_simp; done) | (go_simp; rfl)); intro gb111 hg w67 hbox hb; have n0_ := Aside0.mk (qk_ BK103.out hb); have n1_ := Aside0.mk (qk_ BK110.out hb); have n2_ := Aside0.mk (below_step (q2_ HB.out GE103.out GE110.out) hb); have n3_ := Aside0.mk (hbox); have n4_ := Aside0.mk (qs_ hg (q2_ HB.out GE103.out GE110.out) : w.heap.size ≤ gb111); have n5_ := n4_; have n6_ := Aside0.mk (qn_ hg BK103.out); have n7_ := Aside0.mk (Ne.symm (qn_ hg BK103.out)); have n8_ := Aside0.mk (qn_ hg BK110.out); have n9_ := Aside0.mk (Ne.symm (qn_ hg BK110.out)); clear BK103; clear BK110; clear HB; have BK103 := n0_; have BK110 := n1_; have HB := n2_; have BK111 := n3_; have GW111 := n4_; have GE111 := n5_; have NB103_111 := n6_; have NB111_103 := n7_; have NB110_111 := n8_; have NB111_110 := n9_; clear n0_ n1_ n2_ n3_ n4_ n5_ n6_ n7_ n8_ n9_; clear hb hbox hg; have hnb68 := NB110_103.out; have hnc68 := NB103_110.out; have hnb69 := NB110_111.out; have hnc69 := NB111_110.out; have hcz70_0 : w67.cell? ⟨gb110, 0, none⟩ = some (.int .i64 0) := (blk_cell BK110.out 0).trans rfl; have hcz70_1 : w67.cell? ⟨gb110, 1, none⟩ = some (.int .i64 0) := (blk_cell BK110.out 1).trans rfl; have hfz70_0 := blk_frozen BK110.out 0; have hfz70_1 := blk_frozen BK110.out 1; have hnb71 := NB111_103.out; have hnc71 := NB103_111.out; have hcz72_0 : w67.cell? ⟨gb111, 0, none⟩ = some (.int .i64 0) := (blk_cell BK111.out 0).trans rfl; have hcz72_1 : w67.cell? ⟨gb111, 1, none⟩ = some (.int .i64 0) := (blk_cell BK111.out 1).trans rfl; have hfz72_0 := blk_frozen BK111.out 0; have hfz72_1 := blk_frozen BK111.out 1) | ((with_reducible refine gate_dst (N := 14) rfl ?_); refine qx_ 14 #[.int .i64 0, .int .i64 0] 23 ?hr ?_; (case hr => first | (go_simp; done) | (go_simp; rfl)); intro gb112 hg w73 hbox hb; have n0_ := Aside0.mk (blk_below (g := gb103) (o := .cells #[.int .i64 0, .int .i64 0] 23 (0, 0)) (by refine qb_ ?_; refine blk_far ?_ NB103_111.out _; refine qb_ ?_; refine blk_far ?_ NB103_111.out _; refine qb_ ?_; refine blk_far ?_ NB103_110.out _; refine qb_ ?_; refine blk_far ?_ NB103_110.out _; refine qb_ ?_; exact BK103.out) hb); have n1_ := Aside0.mk (blk_below (g := gb110) (o := .cells #[.int .i64 t106, .int .i64 t107] 23 (0, 0)) (by refine qb_ ?_; refine blk_far ?_ NB110_111.out _; refine qb_ ?_; refine blk_far ?_ NB110_111.out _; refine qb_ ?_; refine blk_put (cs := #[.int .i64 t106, .int .i64 0]) ?_ 1 _ rfl; refine qb_ ?_; refine blk_put (cs := #[.int .i64 0, .int .i64 0]) ?_ 0 _ rfl; refine qb_ ?_; exact BK110.out) hb); have n2_ := Aside0.mk (blk_below (g := gb111) (o := .cells #[.int .i64 t108, .int .i64 t109] 23 (0, 0)) (by refine qb_ ?_; refine blk_put (cs := #[.int .i64 t108, .int .i64 0]) ?_ 1 _ rfl; refine qb_ ?_; refine blk_put (cs := #[.int .i64 0, .int .i64 0]) ?_ 0 _ rfl; refine qb_ ?_; refine blk_far ?_ NB111_110.out _; refine qb_ ?_; refine blk_far ?_ NB111_110.out _; refine qb_ ?_; exact BK111.out) hb); have n3_ := Aside0.mk (below_step (q3_ HB.out GE103.out GE110.out GE111.out) hb); have n4_ := Aside0.mk (hbox); have n5_ := Aside0.mk (qs_ hg (q3_ HB.out GE103.out GE110.out GE111.out) : w.heap.size ≤ gb112); have n6_ := n5_; have n7_ := Aside0.mk ((by rw [hg]; exact Nat.ne_of_lt (blk_lt (g := gb103) (o := .cells #[.int .i64 0, .int .i64 0] 23 (0, 0)) (by refine qb_ ?_; refine blk_far ?_ NB103_111.out _; refine qb_ ?_; refine blk_far ?_ NB103_111.out _; refine qb_ ?_; refine blk_far ?_ NB103_110.out _; refine qb_ ?_; refine blk_far ?_ NB103_110.out _; refine qb_ ?_; exact BK103.out)) : gb103 ≠ gb112)); have n8_ := Aside0.mk ((by rw [hg]; exact Nat.ne_of_gt (blk_lt (g := gb103) (o := .cells #[.int .i64 0, .int .i64 0] 23 (0, 0)) (by refine qb_ ?_; refine blk_far ?_ NB103_111.out _; refine qb_ ?_; refine blk_far ?_ NB103_111.out _; refine qb_ ?_; refine blk_far ?_ NB103_110.out _; refine qb_ ?_; refine blk_far ?_ NB103_110.out _; refine qb_ ?_; exact BK103.out)) : gb112 ≠ gb103)); have n9_ := Aside0.mk ((by rw [hg]; exact Nat.ne_of_lt (blk_lt (g := gb110) (o := .cells #[.int .i64 t106, .int .i64 t107] 23 (0, 0)) (by refine qb_ ?_; refine blk_far ?_ NB110_111.out _; refine qb_ ?_; refine blk_far ?_ NB110_111.out _; refine qb_ ?_; refine blk_put (cs := #[.int .i64 t106, .int .i64 0]) ?_ 1 _ rfl; refine qb_ ?_; refine blk_put (cs := #[.int .i64 0, .int .i64 0]) ?_ 0 _ rfl; refine qb_ ?_; exact BK110.out)) : gb110 ≠ gb112)); have n10_ := Aside0.mk ((by rw [hg]; exact Nat.ne_of_gt (blk_lt (g := gb110) (o := .cells #[.int .i64 t106, .int .i64 t107] 23 (0, 0)) (by refine qb_ ?_; refine blk_far ?_ NB110_111.out _; refine qb_ ?_; refine blk_far ?_ NB110_111.out _; refine qb_ ?_; refine blk_put (cs := #[.int .i64 t106, .int .i64 0]) ?_ 1 _ rfl; refine qb_ ?_; refine blk_put (cs := #[.int .i64 0, .int .i64 0]) ?_ 0 _ rfl; refine qb_ ?_; exact BK110.out)) : gb112 ≠ gb110)); have n11_ := Aside0.mk ((by rw [hg]; exact Nat.ne_of_lt (blk_lt (g := gb111) (o := .cells #[.int .i64 t108, .int .i64 t109] 23 (0, 0)) (by refine qb_ ?_; refine blk_put (cs := #[.int .i64 t108, .int .i64 0]) ?_ 1 _ rfl; refine qb_ ?_; refine blk_put (cs := #[.int .i64 0, .int .i64 0]) ?_ 0 _ rfl; refine qb_ ?_; refine blk_far ?_ NB111_110.out _; refine qb_ ?_; refine blk_far ?_ NB111_110.out _; refine qb_ ?_; exact BK111.out)) : gb111 ≠ gb112)); have n12_ := Aside0.mk ((by rw [hg]; exact Nat.ne_of_gt (blk_lt (g := gb111) (o := .cells #[.int .i64 t108, .int .i64 t109] 23 (0, 0)) (by refine qb_ ?_; refine blk_put (cs := #[.int .i64 t108, .int .i64 0]) ?_ 1 _ rfl; refine qb_ ?_; refine blk_put (cs := #[.int .i64 0, .int .i64 0]) ?_ 0 _ rfl; refine qb_ ?_; refine blk_far ?_ NB111_110.out _; refine qb_ ?_; refine blk_far ?_ NB111_110.out _; refine qb_ ?_; exact BK111.out)) : gb112 ≠ gb111)); clear BK103; clear BK110; clear BK111; clear HB; have BK103 := n0_; have BK110 := n1_; have BK111 := n2_; have HB := n3_; have BK112 := n4_; have GW112 := n5_; have GE112 := n6_; have NB103_112 := n7_; have NB112_103 := n8_; have NB110_112 := n9_; have NB112_110 := n10_; have NB111_112 := n11_; have NB112_111 := n12_; clear n0_ n1_ n2_ n3_ n4_ n5_ n6_ n7_ n8_ n9_ n10_ n11_ n12_; clear hb hbox hg; have hnb74 := NB112_103.out; have hnc74 := NB103_112.out; have hnb75 := NB112_110.out; have hnc75 := NB110_112.out; have hnb76 := NB112_111.out; have hnc76 := NB111_112.out; have hcz77_0 : w73.cell? ⟨gb112, 0, none⟩ = some (.int .i64 0) := (blk_cell BK112.out 0).trans rfl; have hcz77_1 : w73.cell? ⟨gb112, 1, none⟩ = some (.int .i64 0) := (blk_cell BK112.out 1).trans rfl; have hfz77_0 := blk_frozen BK112.out 0; have hfz77_1 := blk_frozen BK112.out 1; have hcz78_0 : w73.cell? ⟨gb103, 0, none⟩ = some (.int .i64 0) := (blk_cell BK103.out 0).trans rfl; have hcz78_1 : w73.cell? ⟨gb103, 1, none⟩ = some (.int .i64 0) := (blk_cell BK103.out 1).trans rfl; have hfz78_0 := blk_frozen BK103.out 0; have hfz78_1 := blk_frozen BK103.out 1))
      refine bodyPost_ret (results_ct rfl _ _ gb103 23 #[.int .i64 (wrap64 (t106 + (wrap64 (t104 * t107)))), .int .i64 t107] (0, 0) _ rfl (by refine qb_ ?_; refine blk_put (cs := #[.int .i64 (wrap64 (t106 + (wrap64 (t104 * t107)))), .int .i64 0]) ?_ 1 _ rfl; refine qb_ ?_; refine blk_put (cs := #[.int .i64 0, .int .i64 0]) ?_ 0 _ rfl; refine qb_ ?_; refine blk_far ?_ NB103_112.out _; refine qb_ ?_; refine blk_far ?_ NB103_112.out _; refine qb_ ?_; refine blk_far ?_ NB103_112.out _; refine qb_ ?_; exact BK103.out) Tryd.underlying23 rfl (by kernel_rfl)) rfl ?_
      exact ⟨by first | rfl | (simp [errW_none, errW_some] <;> rfl) | (simp [*, errW_none, errW_some] <;> rfl), (q4_ HB.out GE103.out GE110.out GE111.out GE112.out)⟩
end Go.Proofs.YtdjnneflpkllmaaDoor.Q

namespace Go.Proofs.Num
open Go.RowKit Go.Proofs.YtdjnneflpkllmaaDoorW.PrintWords Go.Proofs.YtdjnneflpkllmaaDoorW.PrintMore Go.Proofs.YtdjnneflpkllmaaDoor.Q
set_option linter.unusedVariables false
set_option linter.unusedSimpArgs false
end Go.Proofs.Num

namespace Go.Proofs.YtdjnneflpkllmaaDoor.Q
open Go.RowKit Go.Proofs.YtdjnneflpkllmaaDoorW.PrintWords Go.Proofs.YtdjnneflpkllmaaDoorW.PrintLast Go.Proofs.YtdjnneflpkllmaaDoorW.PrintMore
attribute [local go_sem] max2_int min2_int max_two min_two max_three min_three max_four min_four
set_option linter.unusedVariables false
set_option linter.unusedSimpArgs false
end Go.Proofs.YtdjnneflpkllmaaDoor.Q

namespace Go.Proofs
open Go.Shelf
def Tryd.lays105_ren : Go.Shelf.Ren := ⟨fun | 105 => 109 | 212 => 120 | 99 => 121 | 165 => 122 | 166 => 123 | 170 => 124 | 169 => 125 | 263 => 134 | 264 => 114 | 206 => 135 | 240 => 136 | 241 => 137 | 276 => 144 | 277 => 145 | n => n, fun | 9 => 9 | 3 => 3 | 4 => 4 | 20 => 20 | 0 => 0 | 46 => 119 | 109 => 120 | 5 => 5 | 72 => 126 | 76 => 130 | 51 => 143 | 146 => 144 | 53 => 81 | 148 => 112 | 70 => 123 | 37 => 124 | 75 => 129 | 127 => 146 | 164 => 151 | 80 => 133 | n => n, fun | n => n⟩
theorem Tryd.lays105 : Go.Proofs.Lays.n105 Tryd.prog Tryd.lays105_ren := {
  mixed := by kernel_rfl
  f99 := Tryd.func121.trans (congrArg some (by kernel_rfl))
  f105 := Tryd.func109.trans (congrArg some (by kernel_rfl))
  f165 := Tryd.func122.trans (congrArg some (by kernel_rfl))
  f166 := Tryd.func123.trans (congrArg some (by kernel_rfl))
  f169 := Tryd.func125.trans (congrArg some (by kernel_rfl))
  f170 := Tryd.func124.trans (congrArg some (by kernel_rfl))
  f206 := Tryd.func135.trans (congrArg some (by kernel_rfl))
  f212 := Tryd.func120.trans (congrArg some (by kernel_rfl))
  f240 := Tryd.func136.trans (congrArg some (by kernel_rfl))
  f241 := Tryd.func137.trans (congrArg some (by kernel_rfl))
  f263 := Tryd.func134.trans (congrArg some (by kernel_rfl))
  f264 := Tryd.func114.trans (congrArg some (by kernel_rfl))
  f276 := Tryd.func144.trans (congrArg some (by kernel_rfl))
  f277 := Tryd.func145.trans (congrArg some (by kernel_rfl))
  t0 := Tryd.underlying0
  a0 := Tryd.isAgg0
  z0 := Tryd.sizeOf0
  v0 := Tryd.zeroValue0
  t3 := Tryd.underlying3
  a3 := Tryd.isAgg3
  z3 := Tryd.sizeOf3
  v3 := Tryd.zeroValue3
  t4 := Tryd.underlying4
  a4 := Tryd.isAgg4
  z4 := Tryd.sizeOf4
  v4 := Tryd.zeroValue4
  t5 := Tryd.underlying5
  a5 := Tryd.isAgg5
  z5 := Tryd.sizeOf5
  v5 := Tryd.zeroValue5
  t9 := Tryd.underlying9
  a9 := Tryd.isAgg9
  z9 := Tryd.sizeOf9
  v9 := Tryd.zeroValue9
  t20 := Tryd.underlying20
  a20 := Tryd.isAgg20
  z20 := Tryd.sizeOf20
  v20 := Tryd.zeroValue20
  t37 := Tryd.underlying124
  a37 := Tryd.isAgg124
  z37 := Tryd.sizeOf124
  v37 := Tryd.zeroValue124
  t46 := Tryd.underlying119
  a46 := Tryd.isAgg119
  z46 := Tryd.sizeOf119
  v46 := Tryd.zeroValue119
  t51 := Tryd.underlying143
  a51 := Tryd.isAgg143
  z51 := Tryd.sizeOf143
  v51 := Tryd.zeroValue143
  t53 := Tryd.underlying81
  a53 := Tryd.isAgg81
  z53 := Tryd.sizeOf81
  v53 := Tryd.zeroValue81
  t70 := Tryd.underlying123
  a70 := Tryd.isAgg123
  z70 := Tryd.sizeOf123
  v70 := Tryd.zeroValue123
  t72 := Tryd.underlying126
  a72 := Tryd.isAgg126
  z72 := Tryd.sizeOf126
  v72 := Tryd.zeroValue126
  t75 := Tryd.underlying129
  a75 := Tryd.isAgg129
  z75 := Tryd.sizeOf129
  v75 := Tryd.zeroValue129
  t76 := Tryd.underlying130
  a76 := Tryd.isAgg130
  z76 := Tryd.sizeOf130
  v76 := Tryd.zeroValue130
  t109 := Tryd.underlying120
  a109 := Tryd.isAgg120
  z109 := Tryd.sizeOf120
  v109 := Tryd.zeroValue120
  t127 := Tryd.underlying146
  a127 := Tryd.isAgg146
  z127 := Tryd.sizeOf146
  v127 := Tryd.zeroValue146
  t146 := Tryd.underlying144
  a146 := Tryd.isAgg144
  z146 := Tryd.sizeOf144
  v146 := Tryd.zeroValue144
  t148 := Tryd.underlying112
  a148 := Tryd.isAgg112
  z148 := Tryd.sizeOf112
  v148 := Tryd.zeroValue112
  t164 := Tryd.underlying151
  a164 := Tryd.isAgg151
  z164 := Tryd.sizeOf151
  v164 := Tryd.zeroValue151 }
theorem Tryd.Builder_Extra_105 : Builder.Extra Tryd.prog Tryd.lays105_ren := {
  sizeBuilder := by kernel_rfl
  liesBuilder := by kernel_rfl
  t5 := Tryd.underlying5
  a5 := Tryd.isAgg5
  z5 := Tryd.sizeOf5
  v5 := Tryd.zeroValue5
  infoByte := by kernel_rfl
  cellsByte := by kernel_rfl
  sizeByte := by kernel_rfl
  neB5 := by decide }
open Go.RowKit Go.Lib in
open Go.RowKit Go.Lib in
open Go.RowKit Go.Lib in
open Go.RowKit Go.Lib in
open Go.RowKit Go.Lib in
open Go.RowKit Go.Lib in
open Go.RowKit Go.Lib in
theorem Tryd.strings_Repeat (s : ByteArray) (c : Nat) (w : World) (hc : c ≤ 9223372036854775807) (hlen : s.size * c ≤ 140737488355328) :
    Calls Tryd.prog 109 #[.string s, .int .i64 c] w fun e w' => e = .returned (.string ⟨(Lib.repeatL s.data.toList c).toArray⟩) ∧ Below w.heap.size w w' := Any.strings_Repeat Tryd.lays105 Tryd.Builder_Extra_105 s c w hc hlen
end Go.Proofs

namespace Go.Proofs.Num
open Go.RowKit
set_option linter.unusedVariables false
set_option linter.unusedSimpArgs false
theorem size_alive (w : World) : Calls Tryd.prog 78 #[.int .i64 (-5)] w fun e w' => e = .returned (.int .u64 5) ∧ w' = w := by
  go_enter Tryd.func78, Tryd.ntmps78
  go_wp2
  go_ret
  exact ⟨by rfl, rfl⟩
set_option maxRecDepth 100000 in
theorem small_alive (w : World) : Calls Tryd.prog 130 #[.int .i64 5] w fun e w' => e = .returned (.string ⟨#[53]⟩) ∧ w' = w := by
  go_enter Tryd.func130, Tryd.ntmps130
  go_wp2
  go_ret
  exact ⟨by rfl, rfl⟩
set_option maxRecDepth 100000 in
theorem format_alive (w : World) : Calls Tryd.prog 108 #[.int .u64 5, .int .i64 10] w fun e w' => e = .returned (.string ⟨#[53]⟩) ∧ w' = w := by
  go_enter Tryd.func108, Tryd.ntmps108
  go_wp2_with (first
    | (go_at_call 130; refine (small_alive _).mono ?_; rintro e w1 ⟨rfl, rfl⟩)
    | go_in)
  go_ret
  exact ⟨by rfl, rfl⟩
theorem repeat_alive (w : World) : Calls Tryd.prog 109 #[.string ⟨#[48]⟩, .int .i64 2] w fun e w' => e = .returned (.string ⟨#[48, 48]⟩) ∧ Below w.heap.size w w' :=
  (Tryd.strings_Repeat ⟨#[48]⟩ 2 w (by decide) (by decide)).mono fun _ _ ⟨h1, h2⟩ => ⟨h1.trans (by rfl), h2⟩
set_option maxRecDepth 100000 in
set_option maxHeartbeats 1600000 in
theorem decimal_alive (w : World) : Calls Tryd.prog 72 #[.int .i64 (-5), .int .i64 2] w fun e w' => e = .returned (.tuple #[.string ⟨#[45, 48, 46, 48, 53]⟩, .int .i64 0]) ∧ Below w.heap.size w w' := by
  have e0 : (⟨#[48, 48]⟩ : ByteArray) ++ ⟨#[53]⟩ = ⟨#[48, 48, 53]⟩ := by decide
  go_enter Tryd.func72, Tryd.ntmps72
  go_upto_region 7 with (first
    | (go_at_call 78; refine (size_alive _).mono ?_; rintro e w1 ⟨rfl, rfl⟩)
    | (go_at_call 108; refine (format_alive _).mono ?_; rintro e w1 ⟨rfl, rfl⟩)
    | (go_at_call 109; refine (repeat_alive _).mono ?_; rintro e w1 ⟨rfl, hb⟩))
  go_quiet (fail)
  go_wp2
  go_ret2
  refine ⟨?_, hb.trans ⟨rfl, rfl, rfl, Nat.le_refl _, fun _ _ => rfl⟩⟩
  have e1 : (⟨#[45]⟩ : ByteArray) ++ ((⟨#[48, 48, 53]⟩ : ByteArray).extract 0 1 ++ ⟨#[46]⟩ ++ (⟨#[48, 48, 53]⟩ : ByteArray).extract 1 3) = ⟨#[45, 48, 46, 48, 53]⟩ := by decide
  exact congrArg (fun x => Ending.returned (.tuple #[.string x, .int .i64 0])) e1
end Go.Proofs.Num



namespace Go.Proofs.Num
open Go.RowKit Go.Proofs.YtdjnneflpkllmaaDoorW.PrintLast Go.Proofs.YtdjnneflpkllmaaDoorW.PrintWords Go.Proofs.YtdjnneflpkllmaaDoor.Q
set_option linter.unusedVariables false
set_option linter.unusedSimpArgs false
theorem best_alive (w : World) : Calls Tryd.prog 19 #[.int .i64 355, .int .i64 113, .int .i64 10] w fun e w' => e = .returned (.tuple #[.agg #[.int .i64 22, .int .i64 7], .int .i64 0]) ∧ Below w.heap.size w w' :=
  num_Best.calls 30 355 113 10 22 7 0 w (by kernel_rfl)
theorem valid_alive (w : World) : Calls Tryd.prog 26 #[.agg #[.int .i64 22, .int .i64 7]] w fun e w' => e = .returned (.bool true) ∧ Below w.heap.size w w' :=
  num_Valid.calls 30 22 7 true w (by kernel_rfl)
set_option maxRecDepth 100000 in
set_option maxHeartbeats 3200000 in
theorem alive_any (w : World) : Calls Tryd.prog 21 #[] w fun e w' => e = .returned (.bool true) ∧ Below w.heap.size w w' := by
  have hb0 : Below w.heap.size w (w.alloc (.cells #[.int .i64 3, .int .i64 3, .int .i64 1] 3)) := (Below.refl _ _).alloc (Nat.le_refl _) _
  have hh0 : (w.alloc (.cells #[.int .i64 3, .int .i64 3, .int .i64 1] 3)).heap[w.heap.size]? = some (.cells #[.int .i64 3, .int .i64 3, .int .i64 1] 3 (0, 0)) := by show (w.heap.push _)[w.heap.size]? = _; simp
  have AP := apportion_alive w.heap.size (w.alloc (.cells #[.int .i64 3, .int .i64 3, .int .i64 1] 3)) (by simp) ((blk_cell hh0 0).trans rfl) ((blk_cell hh0 1).trans rfl) ((blk_cell hh0 2).trans rfl)
  have HA := Lib.hid AP
  have HB0 := Lib.hid hb0
  clear AP hb0 hh0
  go_enter Tryd.func21, Tryd.ntmps21
  go_upto_region 3 with (first
    | (go_at_call 47; refine HA.out.mono ?_; rintro e w1 ⟨p, rfl, hp, y0, y1, y2, hb1⟩; have HY0 := Lib.hid y0; have HY1 := Lib.hid y1; have HY2 := Lib.hid y2; clear y0 y1 y2)
    | (go_at_call 19; refine (best_alive _).mono ?_; rintro e w2 ⟨rfl, hb2⟩))
  have hz2 : p < w2.heap.size := Nat.lt_of_lt_of_le hp hb2.size
  have y0 := (hb2.cell (p := ⟨p, 0, none⟩) hp).trans HY0.out
  have y1 := (hb2.cell (p := ⟨p, 1, none⟩) hp).trans HY1.out
  have y2 := (hb2.cell (p := ⟨p, 2, none⟩) hp).trans HY2.out
  have hbw : Below w.heap.size w w2 := (HB0.out.trans (hb1.mono (by simp))).trans (hb2.mono (HB0.out.trans (hb1.mono (by simp))).size)
  have hF : (w2.alloc (.cells #[.int .i64 22, .int .i64 7] 23)).heap[w2.heap.size]? = some (.cells #[.int .i64 22, .int .i64 7] 23 (0, 0)) := by show (w2.heap.push _)[w2.heap.size]? = _; simp
  have hbF : Below w2.heap.size w2 (w2.alloc (.cells #[.int .i64 22, .int .i64 7] 23)) := (Below.refl _ _).alloc (Nat.le_refl _) _
  have hsF : (w2.alloc (.cells #[.int .i64 22, .int .i64 7] 23)).heap.size = w2.heap.size + 1 := by simp
  clear hb1 hb2 hp HY0 HY1 HY2 HB0 HA
  generalize w2.alloc (.cells #[.int .i64 22, .int .i64 7] 23) = W at hF hbF hsF ⊢
  have SAME : ∀ w3, Below W.heap.size W w3 → Calls Tryd.prog 41 #[.slice (some ⟨p, 0, none⟩) 3 3, .slice (some ⟨w3.heap.size, 0, none⟩) 3 3] (w3.alloc (.cells #[.int .i64 4, .int .i64 4, .int .i64 2] 3)) fun e w' => e = .returned (.bool true) ∧ ∃ n, w' = (w3.alloc (.cells #[.int .i64 4, .int .i64 4, .int .i64 2] 3)).drewN n := by
    intro w3 h3
    have hh : (w3.alloc (.cells #[.int .i64 4, .int .i64 4, .int .i64 2] 3)).heap[w3.heap.size]? = some (.cells #[.int .i64 4, .int .i64 4, .int .i64 2] 3 (0, 0)) := by show (w3.heap.push _)[w3.heap.size]? = _; simp
    have hb : Below w2.heap.size w2 (w3.alloc (.cells #[.int .i64 4, .int .i64 4, .int .i64 2] 3)) := hbF.trans ((h3.alloc h3.size _).mono (by omega))
    exact same_alive _ _ _ ((hb.cell (p := ⟨p, 0, none⟩) hz2).trans y0) ((hb.cell (p := ⟨p, 1, none⟩) hz2).trans y1) ((hb.cell (p := ⟨p, 2, none⟩) hz2).trans y2) ((blk_cell hh 0).trans rfl) ((blk_cell hh 1).trans rfl) ((blk_cell hh 2).trans rfl)
  have FR : ∀ w3, Below W.heap.size W w3 → w3.cell? ⟨w2.heap.size, 0, none⟩ = some (.int .i64 22) ∧ w3.cell? ⟨w2.heap.size, 1, none⟩ = some (.int .i64 7) ∧ w2.heap.size < w3.heap.size := by
    intro w3 h3
    have hh := (h3.block w2.heap.size (by omega)).trans hF
    exact ⟨(blk_cell hh 0).trans rfl, (blk_cell hh 1).trans rfl, by have := h3.size; omega⟩
  have HS := Lib.hid SAME
  have HFR := Lib.hid FR
  have HW := Lib.hid (hbw.trans (hbF.mono hbw.size))
  have HWs : w.heap.size ≤ W.heap.size := HW.out.size
  clear SAME FR hF hbF hsF y0 y1 y2 hz2 hbw
  go_wp2_with (first
    | (go_at_call 72; refine (decimal_alive _).mono ?_; rintro e w3 ⟨rfl, hb3⟩; obtain ⟨f0, f1, f2⟩ := HFR.out w3 hb3; have hb3' := Lib.hid hb3; clear hb3)
    | (go_at_call 41; refine (HS.out w3 hb3'.out).mono ?_; rintro e w4 ⟨rfl, n, rfl⟩)
    | (go_at_call 26; refine (valid_alive _).mono ?_; rintro e w5 ⟨rfl, hb5⟩))
  go_ret
  have h1 := hb3'.out.size
  have hX : w.heap.size ≤ ((w3.alloc (.cells #[.int .i64 4, .int .i64 4, .int .i64 2] 3)).drewN n).heap.size := by
    show w.heap.size ≤ (w3.alloc _).heap.size
    simp
    omega
  exact ⟨rfl, HW.out.trans ((below_draws ((hb3'.out.alloc hb3'.out.size _).mono HWs) n).trans (hb5.mono hX))⟩
end Go.Proofs.Num

namespace Go.Proofs.YtdjnneflpkllmaaDoor.Q
open Go.RowKit Go.Proofs.YtdjnneflpkllmaaDoorW.PrintWords Go.Proofs.YtdjnneflpkllmaaDoorW.PrintLast Go.Proofs.YtdjnneflpkllmaaDoorW.PrintMore
attribute [local go_sem] max2_int min2_int max_two min_two max_three min_three max_four min_four
set_option linter.unusedVariables false
set_option linter.unusedSimpArgs false
def merinolaw01_alive.f : Option Bool := some true
theorem merinolaw01_alive.calls (r : Bool) (w : World) (h : merinolaw01_alive.f = some r) : Calls Tryd.prog 21 #[] w fun e w' => e = .returned (.bool r) ∧ Below w.heap.size w w' := by
 obtain rfl : true = r := Option.some.inj h
 exact Go.Proofs.Num.alive_any w
end Go.Proofs.YtdjnneflpkllmaaDoor.Q

namespace Go.Proofs.Num
open Go.RowKit Go.Proofs.YtdjnneflpkllmaaDoorW.PrintWords Go.Proofs.YtdjnneflpkllmaaDoorW.PrintMore Go.Proofs.YtdjnneflpkllmaaDoor.Q
set_option linter.unusedVariables false
set_option linter.unusedSimpArgs false
def bestOk (n d M : Int) : Prop := -1099511627776 ≤ n ∧ n ≤ 1099511627776 ∧ 1 ≤ d ∧ d ≤ 1099511627776 ∧ 1 ≤ M ∧ M ≤ 1048576
instance (n d M : Int) : Decidable (bestOk n d M) := by unfold bestOk; infer_instance
def pick (n2 t far bn bd off : Int) : Int × Int × Int := if bd = 0 ∨ far * bd < off * t then (n2, t, far) else (bn, bd, off)
def both (n d q bn bd off : Int) : Int × Int × Int :=
  let s := pick (n * q / d) q (n * q - n * q / d * d) bn bd off
  pick (n * q / d + 1) q ((n * q / d + 1) * d - n * q) s.1 s.2.1 s.2.2
end Go.Proofs.Num

namespace Go.Proofs.YtdjnneflpkllmaaDoor.Q
open Go.RowKit Go.Proofs.YtdjnneflpkllmaaDoorW.PrintWords Go.Proofs.YtdjnneflpkllmaaDoorW.PrintLast Go.Proofs.YtdjnneflpkllmaaDoorW.PrintMore
attribute [local go_sem] max2_int min2_int max_two min_two max_three min_three max_four min_four
set_option linter.unusedVariables false
set_option linter.unusedSimpArgs false
def merinoref01_Minus.f (k : Nat) (a0_0 : Bool) (l0_1 : List Int) (a1_0 : Bool) (l1_1 : List Int) : Option (Bool × List Int) := (merinoref01_Neg.f k a1_0 l1_1).bind fun bt283 => ((merinoref01_Plus.f k a0_0 l0_1 bt283.1 bt283.2).bind fun bt287 => (some (bt287.1, bt287.2)))
set_option maxHeartbeats 8000000 in
set_option maxRecDepth 100000 in
theorem merinoref01_Minus.calls (k : Nat) (a0_0 : Bool) (A0_1 : Option Addr) (c0_1 : Nat) (l0_1 : List Int) (a1_0 : Bool) (A1_1 : Option Addr) (c1_1 : Nat) (l1_1 : List Int) (r1 : Bool) (r2 : List Int) (w : World) (hr0_1 : Kd.C (Kd.int .i64) w A0_1 l0_1.length l0_1) (hc0_1 : l0_1.length ≤ c0_1) (hr1_1 : Kd.C (Kd.int .i64) w A1_1 l1_1.length l1_1) (hc1_1 : l1_1.length ≤ c1_1) (h : merinoref01_Minus.f k a0_0 l0_1 a1_0 l1_1 = some (r1, r2)) :
  Calls Tryd.prog 68 #[.agg #[.bool a0_0, .slice A0_1 l0_1.length c0_1], .agg #[.bool a1_0, .slice A1_1 l1_1.length c1_1]] w fun e w' => ∃ v1_ : Value, e = .returned (.agg #[.bool r1, v1_]) ∧ Kd.R (Kd.int .i64) 3 w' w.heap.size (fun _ => True) v1_ r2 ∧ Below w.heap.size w w' := by
 have hu31 := Tryd.underlying31
 have HR0_1 := Aside0.mk hr0_1
 have HC0_1 := Aside0.mk hc0_1
 clear hr0_1 hc0_1
 have HR1_1 := Aside0.mk hr1_1
 have HC1_1 := Aside0.mk hc1_1
 clear hr1_1 hc1_1
 have HB := Aside0.mk (Below.refl w.heap.size w)
 have H : ((merinoref01_Neg.f k a1_0 l1_1).bind fun bt283 => ((merinoref01_Plus.f k a0_0 l0_1 bt283.1 bt283.2).bind fun bt287 => (some (bt287.1, bt287.2)))) = some (r1, r2) := h
 clear h
 replace H := Option.bind_eq_some_iff.mp H
 obtain ⟨⟨t283, t284⟩, A30, H⟩ := H
 replace H : ((merinoref01_Plus.f k a0_0 l0_1 t283 t284).bind fun bt287 => (some (bt287.1, bt287.2))) = some (r1, r2) := H
 have A3 := Aside0.mk A30
 clear A30
 replace H := Option.bind_eq_some_iff.mp H
 obtain ⟨⟨t287, t288⟩, A40, H⟩ := H
 replace H : (some (t287, t288)) = some (r1, r2) := H
 have A4 := Aside0.mk A40
 clear A40
 simp only [Option.some.injEq, Prod.mk.injEq] at H
 obtain ⟨rfl, rfl⟩ := H
 go_enter Tryd.func68, Tryd.ntmps68
 try go_wp2_with (first | ((with_reducible refine gate_dst (N := 2) rfl ?_); refine qx_ 2 #[.bool a0_0, .slice A0_1 l0_1.length c0_1] 31 ?hr ?_; (case hr => first | (go_simp; done) | (go_simp; rfl)); intro gb280 hg w5 hbox hb; have n0_ := Aside0.mk (below_step (q0_ HB.out) hb); have n1_ := Aside0.mk (hbox); have n2_ := Aside0.mk (qs_ hg (q0_ HB.out) : w.heap.size ≤ gb280); have n3_ := n2_; clear HB; have HB := n0_; have BK280 := n1_; have GW280 := n2_; have GE280 := n3_; clear n0_ n1_ n2_ n3_; clear hb hbox hg) | ((with_reducible refine gate_dst (N := 3) rfl ?_); refine qx_ 3 #[.bool a1_0, .slice A1_1 l1_1.length c1_1] 31 ?hr ?_; (case hr => first | (go_simp; done) | (go_simp; rfl)); intro gb281 hg w6 hbox hb; have n0_ := Aside0.mk (qk_ BK280.out hb); have n1_ := Aside0.mk (below_step (q1_ HB.out GE280.out) hb); have n2_ := Aside0.mk (hbox); have n3_ := Aside0.mk (qs_ hg (q1_ HB.out GE280.out) : w.heap.size ≤ gb281); have n4_ := n3_; have n5_ := Aside0.mk (qn_ hg BK280.out); have n6_ := Aside0.mk (Ne.symm (qn_ hg BK280.out)); clear BK280; clear HB; have BK280 := n0_; have HB := n1_; have BK281 := n2_; have GW281 := n3_; have GE281 := n4_; have NB280_281 := n5_; have NB281_280 := n6_; clear n0_ n1_ n2_ n3_ n4_ n5_ n6_; clear hb hbox hg) | ((with_reducible refine gate_dst (N := 4) rfl ?_); refine qx_ 4 #[.bool false, .slice none 0 0] 31 ?hr ?_; (case hr => first | (go_simp; done) | (go_simp; rfl)); intro gb282 hg w7 hbox hb; have n0_ := Aside0.mk (qk_ BK280.out hb); have n1_ := Aside0.mk (qk_ BK281.out hb); have n2_ := Aside0.mk (below_step (q2_ HB.out GE280.out GE281.out) hb); have n3_ := Aside0.mk (hbox); have n4_ := Aside0.mk (qs_ hg (q2_ HB.out GE280.out GE281.out) : w.heap.size ≤ gb282); have n5_ := n4_; have n6_ := Aside0.mk (qn_ hg BK280.out); have n7_ := Aside0.mk (Ne.symm (qn_ hg BK280.out)); have n8_ := Aside0.mk (qn_ hg BK281.out); have n9_ := Aside0.mk (Ne.symm (qn_ hg BK281.out)); clear BK280; clear BK281; clear HB; have BK280 := n0_; have BK281 := n1_; have HB := n2_; have BK282 := n3_; have GW282 := n4_; have GE282 := n5_; have NB280_282 := n6_; have NB282_280 := n7_; have NB281_282 := n8_; have NB282_281 := n9_; clear n0_ n1_ n2_ n3_ n4_ n5_ n6_ n7_ n8_ n9_; clear hb hbox hg))
 have n0_ := Aside0.mk (blk_drew BK280.out)
 have n1_ := Aside0.mk (blk_drew BK281.out)
 have n2_ := Aside0.mk (blk_drew BK282.out)
 have n3_ := Aside0.mk (below_drew1 HB.out)
 clear BK280
 clear BK281
 clear BK282
 clear HB
 have BK280 := n0_
 have BK281 := n1_
 have BK282 := n2_
 have HB := n3_
 clear n0_ n1_ n2_ n3_
 refine start_ (n := 5) (S := fun w' => w'.cell? ⟨gb280, 0, none⟩ = some (.bool a0_0) ∧ w'.cell? ⟨gb280, 1, none⟩ = some (.slice A0_1 l0_1.length c0_1) ∧ w'.cell? ⟨gb281, 0, none⟩ = some (.bool a1_0) ∧ w'.cell? ⟨gb281, 1, none⟩ = some (.slice A1_1 l1_1.length c1_1)) (ds := []) #[false, false, false, false, false] (by kernel_rfl) rfl rfl ⟨(blk_cell BK280.out 0).trans rfl, (blk_cell BK280.out 1).trans rfl, (blk_cell BK281.out 0).trans rfl, (blk_cell BK281.out 1).trans rfl⟩ (fun hHeld => ?_)
 generalize w7.drew = w8 at BK280 BK281 BK282 HB hHeld ⊢
 refine take_ (i := 0) (N := some 5) (v := ?_) (a' := ?_) #[true, false, false, false, false] rfl rfl (by kernel_rfl) (fun _ _ _ h => h) (Or.inl ⟨by rfl, ?_⟩) hHeld ?_ ?_
 rotate_left
 ·rintro w' ⟨s0, s1, s2, s3⟩
  go_simp
  with_reducible rfl
 rotate_left
 ·simp only [Act.put, List.setIfInBounds_toArray, List.set_cons_zero, List.set_cons_succ, i64_w, i32_w]
  rfl
 refine take_ (i := 1) (N := some 6) (v := ?_) (a' := ?_) #[true, true, false, false, false] rfl rfl (by kernel_rfl) (fun _ _ _ h => h) (Or.inl ⟨by rfl, ?_⟩) hHeld ?_ ?_
 rotate_left
 ·rintro w' ⟨s0, s1, s2, s3⟩
  go_simp
  with_reducible rfl
 rotate_left
 ·simp only [Act.put, List.setIfInBounds_toArray, List.set_cons_zero, List.set_cons_succ, i64_w, i32_w]
  rfl
 refine one_ (i := 2) (N := some 7) #[true, true, true, false, false] rfl rfl (by kernel_rfl) (by decide) (fun K hK => ?_)
 refine goes_ Tryd.func75 (by kernel_rfl) rfl #[.agg #[.bool a1_0, .slice A1_1 l1_1.length c1_1]] (by rfl) rfl rfl qe_ ?_
 with_reducible refine (merinoref01_Neg.calls k a1_0 _ _ l1_1 t283 t284 _ ?side1 ?side2 A3.out).mono ?_
 (case side1 => exact qc_ (Kd.C_below HR1_1.out HB.out))
 (case side2 => exact HC1_1.out)
 rintro e w9 ⟨v285, rfl, ho0, hb⟩
 refine ⟨_, rfl, ?_⟩
 have n0_ := Aside0.mk (Kd.R_lower ho0 (below_size (q3_ HB.out GE280.out GE281.out GE282.out)))
 have n1_ := Aside0.mk (qk_ BK280.out hb)
 have n2_ := Aside0.mk (qk_ BK281.out hb)
 have n3_ := Aside0.mk (qk_ BK282.out hb)
 have n4_ := Aside0.mk (below_step (q3_ HB.out GE280.out GE281.out GE282.out) hb)
 clear BK280
 clear BK281
 clear BK282
 clear HB
 have HO286 := n0_
 have BK280 := n1_
 have BK281 := n2_
 have BK282 := n3_
 have HB := n4_
 clear n0_ n1_ n2_ n3_ n4_
 (try clear hb)
 (try clear hb2)
 (try clear hk)
 (try clear hi)
 (try clear ho0)
 obtain ⟨Ao10, co10, eo10⟩ := Kd.R_slice HO286.out
 (first | subst eo10 | (injection eo10 with f1_ f2_ f3_; have f4_ := f1_.symm; have f5_ := f3_.symm; clear f1_ f2_ f3_; subst f4_; subst f5_))
 refine hK.out _ _ ⟨(blk_cell BK280.out 0).trans rfl, (blk_cell BK280.out 1).trans rfl, (blk_cell BK281.out 0).trans rfl, (blk_cell BK281.out 1).trans rfl⟩ (fun hHeld => ?_)
 clear hK K
 refine norm_ (a' := ?_) ?_ ?_
 rotate_left
 ·show Act.put _ (some 7) _ = _
  simp only [Act.put, List.setIfInBounds_toArray, List.set_cons_zero, List.set_cons_succ, i64_w, i32_w]
  rfl
 refine one_ (i := 3) (N := some 8) #[true, true, true, true, false] rfl rfl (by kernel_rfl) (by decide) (fun K hK => ?_)
 refine goes_ Tryd.func84 (by kernel_rfl) rfl #[.agg #[.bool a0_0, .slice A0_1 l0_1.length c0_1], .agg #[.bool t283, .slice Ao10 t284.length co10]] (by rfl) rfl rfl qe_ ?_
 with_reducible refine (merinoref01_Plus.calls k a0_0 _ _ l0_1 t283 _ _ t284 t287 t288 _ ?side1 ?side2 ?side3 ?side4 A4.out).mono ?_
 (case side1 => exact qc_ (Kd.C_below HR0_1.out HB.out))
 (case side2 => exact HC0_1.out)
 (case side3 => exact qc_ (Kd.R_reads' HO286.out).2.2)
 (case side4 => exact (Kd.R_reads' HO286.out).2.1)
 rintro e w11 ⟨v289, rfl, ho0, hb⟩
 refine ⟨_, rfl, ?_⟩
 have n0_ := Aside0.mk (Kd.R_elder' (qr_ HO286.out) (Kd.R_base ho0) hb)
 have n1_ := Aside0.mk (Kd.R_lower (Kd.R_new' ho0 (Kd.R_lt (qr_ HO286.out))) (below_size (q3_ HB.out GE280.out GE281.out GE282.out)))
 have n2_ := Aside0.mk (qk_ BK280.out hb)
 have n3_ := Aside0.mk (qk_ BK281.out hb)
 have n4_ := Aside0.mk (qk_ BK282.out hb)
 have n5_ := Aside0.mk (below_step (q3_ HB.out GE280.out GE281.out GE282.out) hb)
 clear HO286
 clear BK280
 clear BK281
 clear BK282
 clear HB
 have HO286 := n0_
 have HO290 := n1_
 have BK280 := n2_
 have BK281 := n3_
 have BK282 := n4_
 have HB := n5_
 clear n0_ n1_ n2_ n3_ n4_ n5_
 (try clear hb)
 (try clear hb2)
 (try clear hk)
 (try clear hi)
 (try clear ho0)
 obtain ⟨Ao13, co13, eo13⟩ := Kd.R_slice HO290.out
 (first | subst eo13 | (injection eo13 with f1_ f2_ f3_; have f4_ := f1_.symm; have f5_ := f3_.symm; clear f1_ f2_ f3_; subst f4_; subst f5_))
 refine hK.out _ _ ⟨(blk_cell BK280.out 0).trans rfl, (blk_cell BK280.out 1).trans rfl, (blk_cell BK281.out 0).trans rfl, (blk_cell BK281.out 1).trans rfl⟩ (fun hHeld => ?_)
 clear hK K
 refine norm_ (a' := ?_) ?_ ?_
 rotate_left
 ·show Act.put _ (some 8) _ = _
  simp only [Act.put, List.setIfInBounds_toArray, List.set_cons_zero, List.set_cons_succ, i64_w, i32_w]
  rfl
 refine one_ (i := 4) (N := none) #[true, true, true, true, true] rfl rfl (by kernel_rfl) (by decide) (fun K hK => ?_)
 have hs12 : w11.cell? ⟨gb282, 0, none⟩ = some (.bool false) := (blk_cell BK282.out 0).trans rfl
 have hfs12 := blk_frozen BK282.out 0
 have hns12_0 := NB280_282.out
 have hns12_1 := NB281_282.out
 have hms12_0 := NB282_280.out
 have hms12_1 := NB282_281.out
 have hs14 : w11.cell? ⟨gb282, 1, none⟩ = some (.slice none 0 0) := (blk_cell BK282.out 1).trans rfl
 have hfs14 := blk_frozen BK282.out 1
 have hns14_0 := NB280_282.out
 have hns14_1 := NB281_282.out
 have hms14_0 := NB282_280.out
 have hms14_1 := NB282_281.out
 refine skip_ (w1 := ?_) (by rfl) rfl ?_ ?_
 rotate_left
 ·go_simp
  rfl
 refine hK.out _ _ ⟨((cell_far (p := ⟨gb282, _, none⟩) NB280_282.out _).trans (((cell_far (p := ⟨gb282, _, none⟩) NB280_282.out _).trans (hHeld.1)))), ((cell_far (p := ⟨gb282, _, none⟩) NB280_282.out _).trans (((cell_far (p := ⟨gb282, _, none⟩) NB280_282.out _).trans (hHeld.2.1)))), ((cell_far (p := ⟨gb282, _, none⟩) NB281_282.out _).trans (((cell_far (p := ⟨gb282, _, none⟩) NB281_282.out _).trans (hHeld.2.2.1)))), ((cell_far (p := ⟨gb282, _, none⟩) NB281_282.out _).trans (((cell_far (p := ⟨gb282, _, none⟩) NB281_282.out _).trans (hHeld.2.2.2))))⟩ (fun hHeld => ?_)
 clear hK K
 refine done_ (by kernel_rfl) ?_
 try go_wp2
 refine bodyPost_ret (results_cell_row rfl _ _ gb282 31 #[.bool t287, .slice Ao13 t288.length co13] (0, 0) _ rfl (by refine qb_ ?_; refine blk_put (cs := #[.bool t287, .slice none 0 0]) ?_ 1 _ rfl; refine qb_ ?_; refine blk_put (cs := #[.bool false, .slice none 0 0]) ?_ 0 _ rfl; refine qb_ ?_; exact BK282.out) Tryd.underlying31 rfl (by kernel_rfl)) rfl ?_
 exact ⟨_, by first | rfl | (simp [errW_none, errW_some] <;> rfl) | (simp [*, errW_none, errW_some] <;> rfl), by refine qr_ ?_; exact Kd.R_mono (Kd.R_far (p := ⟨gb282, 1, none⟩) (Kd.R_far (p := ⟨gb282, 0, none⟩) (Kd.R_types HO290.out BK282.out (by decide)) (fun _ hk => hk.2) (.bool t287)) (fun _ hk => hk.2) (.slice Ao13 t288.length co13)) (fun _ hk => trivial), (q3_ HB.out GE280.out GE281.out GE282.out)⟩
end Go.Proofs.YtdjnneflpkllmaaDoor.Q

namespace Go.Proofs.Num
open Go.RowKit Go.Proofs.YtdjnneflpkllmaaDoorW.PrintWords Go.Proofs.YtdjnneflpkllmaaDoorW.PrintMore Go.Proofs.YtdjnneflpkllmaaDoor.Q
set_option linter.unusedVariables false
set_option linter.unusedSimpArgs false
theorem minus_ok {a b : Bool} {l m : List Int} {x y : Int} (R : Rep a l x) (S : Rep b m y) (hs : l.length ≤ 900) (hs2 : m.length ≤ 900) : ∃ r, Ev (fun k => merinoref01_Minus.f k a l b m) (decide (x - y < 0), r) ∧ Rep (decide (x - y < 0)) r (x - y) ∧ r.length ≤ max l.length m.length + 1 := by
  unfold merinoref01_Minus.f
  obtain ⟨r1, E1, R1, l1⟩ := neg_big_ok S (by omega)
  obtain ⟨r2, E2, R2, l2⟩ := plus_ok R R1 hs (by omega)
  rw [show x + -y = x - y by omega] at E2 R2
  exact ⟨r2, Ev.bind E1 (Ev.bind E2 (Ev.now _)), R2, by omega⟩
end Go.Proofs.Num

namespace Go.Proofs.Num
open Go.RowKit Go.Proofs.YtdjnneflpkllmaaDoorW.PrintWords Go.Proofs.YtdjnneflpkllmaaDoorW.PrintLast Go.Proofs.YtdjnneflpkllmaaDoorW.PrintMore Go.Proofs.YtdjnneflpkllmaaDoor.Q
set_option linter.unusedVariables false
set_option linter.unusedSimpArgs false
section
variable {w w' : World} {base base' : Nat} {v u : Value} {x y : Int} {L M : Nat}
theorem minus_big (hu : BigV w base u x L) (hv : BigV w base' v y M) (hs : L ≤ 900) (hs2 : M ≤ 900) : Calls Tryd.prog 68 #[u, v] w fun e w' => ∃ r, e = .returned r ∧ BigV w' w.heap.size r (x - y) (L + M + 1) ∧ Below w.heap.size w w' := by
  obtain ⟨l1, A1, c1, rfl, r1, R1, h1⟩ := hu
  obtain ⟨l2, A2, c2, rfl, r2, R2, h2⟩ := hv
  obtain ⟨r, E, R, hl⟩ := minus_ok R1 R2 (by omega) (by omega)
  obtain ⟨k, hk⟩ := E.rounds
  obtain ⟨-, i1, j1⟩ := Kd.R_reads' r1
  obtain ⟨-, i2, j2⟩ := Kd.R_reads' r2
  refine (merinoref01_Minus.calls k _ A1 c1 l1 _ A2 c2 l2 _ r w j1 i1 j2 i2 hk).mono ?_
  rintro e w' ⟨p, rfl, hp, hb⟩
  exact ⟨_, rfl, bigV_mk hp R (by omega), hb⟩
theorem rounded_big (hu : BigV w base u x L) (hv : BigV w base' v y M) (hy : y ≠ 0) (m : Int) (h1 : L ≤ 100) (h2 : M ≤ 100) : Calls Tryd.prog 99 #[u, v, .int .i64 m] w fun e w' => ∃ r, e = .returned r ∧ BigV w' w.heap.size r (rndS x y m) 112 ∧ Below w.heap.size w w' := by
  obtain ⟨l1, A1, c1, rfl, r1, R1, g1⟩ := hu
  obtain ⟨l2, A2, c2, rfl, r2, R2, g2⟩ := hv
  obtain ⟨r, E, R, hl⟩ := rrounded_ok (m := m) R1 R2 hy (by omega) (by omega)
  obtain ⟨k, hk⟩ := E.rounds
  obtain ⟨-, i1, j1⟩ := Kd.R_reads' r1
  obtain ⟨-, i2, j2⟩ := Kd.R_reads' r2
  refine (merinoref01_Rounded.calls k _ A1 c1 l1 _ A2 c2 l2 m _ r w j1 i1 j2 i2 hk).mono ?_
  rintro e w' ⟨p, rfl, hp, hb⟩
  exact ⟨_, rfl, bigV_mk hp R hl, hb⟩
end
end Go.Proofs.Num

namespace Go.Proofs.YtdjnneflpkllmaaDoor.Q
open Go.RowKit Go.Proofs.YtdjnneflpkllmaaDoorW.PrintWords Go.Proofs.YtdjnneflpkllmaaDoorW.PrintLast Go.Proofs.YtdjnneflpkllmaaDoorW.PrintMore
attribute [local go_sem] max2_int min2_int max_two min_two max_three min_three max_four min_four
set_option linter.unusedVariables false
set_option linter.unusedSimpArgs false
def merinoref01_less.f (a0_0 : Int) (a0_1 : Int) (a1_0 : Int) (a1_1 : Int) : Option (Bool) := if a0_0 < a1_0 then (some true) else (if a0_0 = a1_0 then (some (decide (a0_1 < a1_1))) else (some false))
set_option maxHeartbeats 8000000 in
set_option maxRecDepth 100000 in
theorem merinoref01_less.calls (a0_0 : Int) (a0_1 : Int) (a1_0 : Int) (a1_1 : Int) (r : Bool) (w : World) (h : merinoref01_less.f a0_0 a0_1 a1_0 a1_1 = some r) :
  Calls Tryd.prog 90 #[.agg #[.int .i64 a0_0, .int .i64 a0_1], .agg #[.int .i64 a1_0, .int .i64 a1_1]] w fun e w' => e = .returned (.bool r) ∧ Below w.heap.size w w' := by
 have hu95 := Tryd.underlying95
 have HB := Aside0.mk (Below.refl w.heap.size w)
 have H : (if a0_0 < a1_0 then (some true) else (if a0_0 = a1_0 then (some (decide (a0_1 < a1_1))) else (some false))) = some r := h
 clear h
 by_cases c3 : a0_0 < a1_0
 ·rw [if_pos c3] at H
  have c3b0 : decide (a0_0 < a1_0) = true := decide_eq_true c3
  clear c3
  obtain rfl := Option.some.inj H
  go_enter Tryd.func90, Tryd.ntmps90
  go_wp2_with (first | ((with_reducible refine gate_dst (N := 2) rfl ?_); refine qx_ 2 #[.int .i64 a0_0, .int .i64 a0_1] 95 ?hr ?_; (case hr => first | (go_simp; done) | (go_simp; rfl)); intro gb785 hg w4 hbox hb; have n0_ := Aside0.mk (below_step (q0_ HB.out) hb); have n1_ := Aside0.mk (hbox); have n2_ := Aside0.mk (qs_ hg (q0_ HB.out) : w.heap.size ≤ gb785); have n3_ := n2_; clear HB; have HB := n0_; have BK785 := n1_; have GW785 := n2_; have GE785 := n3_; clear n0_ n1_ n2_ n3_; clear hb hbox hg) | ((with_reducible refine gate_dst (N := 3) rfl ?_); refine qx_ 3 #[.int .i64 a1_0, .int .i64 a1_1] 95 ?hr ?_; (case hr => first | (go_simp; done) | (go_simp; rfl)); intro gb786 hg w5 hbox hb; have n0_ := Aside0.mk (qk_ BK785.out hb); have n1_ := Aside0.mk (below_step (q1_ HB.out GE785.out) hb); have n2_ := Aside0.mk (hbox); have n3_ := Aside0.mk (qs_ hg (q1_ HB.out GE785.out) : w.heap.size ≤ gb786); have n4_ := n3_; have n5_ := Aside0.mk (qn_ hg BK785.out); have n6_ := Aside0.mk (Ne.symm (qn_ hg BK785.out)); clear BK785; clear HB; have BK785 := n0_; have HB := n1_; have BK786 := n2_; have GW786 := n3_; have GE786 := n4_; have NB785_786 := n5_; have NB786_785 := n6_; clear n0_ n1_ n2_ n3_ n4_ n5_ n6_; clear hb hbox hg; have hnb6 := NB785_786.out; have hnc6 := NB786_785.out; have hcz7_0 : w5.cell? ⟨gb785, 0, none⟩ = some (.int .i64 a0_0) := (blk_cell BK785.out 0).trans rfl; have hcz7_1 : w5.cell? ⟨gb785, 1, none⟩ = some (.int .i64 a0_1) := (blk_cell BK785.out 1).trans rfl; have hfz7_0 := blk_frozen BK785.out 0; have hfz7_1 := blk_frozen BK785.out 1; have hcz8_0 : w5.cell? ⟨gb786, 0, none⟩ = some (.int .i64 a1_0) := (blk_cell BK786.out 0).trans rfl; have hcz8_1 : w5.cell? ⟨gb786, 1, none⟩ = some (.int .i64 a1_1) := (blk_cell BK786.out 1).trans rfl; have hfz8_0 := blk_frozen BK786.out 0; have hfz8_1 := blk_frozen BK786.out 1))
  go_ret
  exact ⟨by first | rfl | (simp [errW_none, errW_some] <;> rfl) | (simp [*, errW_none, errW_some] <;> rfl), (q2_ HB.out GE785.out GE786.out)⟩
 ·rw [if_neg c3] at H
  have c3b0 : decide (a0_0 < a1_0) = false := decide_eq_false c3
  clear c3
  by_cases c9 : a0_0 = a1_0
  ·rw [if_pos c9] at H
   have c9b0 : (a0_0 == a1_0) = true := beq_iff_eq.mpr c9
   have c9b1 : (a0_0 != a1_0) = false := bne_eq_false_iff_eq.mpr c9
   clear c9
   obtain rfl := Option.some.inj H
   go_enter Tryd.func90, Tryd.ntmps90
   go_wp2_with (first | ((with_reducible refine gate_dst (N := 2) rfl ?_); refine qx_ 2 #[.int .i64 a0_0, .int .i64 a0_1] 95 ?hr ?_; (case hr => first | (go_simp; done) | (go_simp; rfl)); intro gb785 hg w10 hbox hb; have n0_ := Aside0.mk (below_step (q0_ HB.out) hb); have n1_ := Aside0.mk (hbox); have n2_ := Aside0.mk (qs_ hg (q0_ HB.out) : w.heap.size ≤ gb785); have n3_ := n2_; clear HB; have HB := n0_; have BK785 := n1_; have GW785 := n2_; have GE785 := n3_; clear n0_ n1_ n2_ n3_; clear hb hbox hg) | ((with_reducible refine gate_dst (N := 3) rfl ?_); refine qx_ 3 #[.int .i64 a1_0, .int .i64 a1_1] 95 ?hr ?_; (case hr => first | (go_simp; done) | (go_simp; rfl)); intro gb786 hg w11 hbox hb; have n0_ := Aside0.mk (qk_ BK785.out hb); have n1_ := Aside0.mk (below_step (q1_ HB.out GE785.out) hb); have n2_ := Aside0.mk (hbox); have n3_ := Aside0.mk (qs_ hg (q1_ HB.out GE785.out) : w.heap.size ≤ gb786); have n4_ := n3_; have n5_ := Aside0.mk (qn_ hg BK785.out); have n6_ := Aside0.mk (Ne.symm (qn_ hg BK785.out)); clear BK785; clear HB; have BK785 := n0_; have HB := n1_; have BK786 := n2_; have GW786 := n3_; have GE786 := n4_; have NB785_786 := n5_; have NB786_785 := n6_; clear n0_ n1_ n2_ n3_ n4_ n5_ n6_; clear hb hbox hg; have hnb12 := NB785_786.out; have hnc12 := NB786_785.out; have hcz13_0 : w11.cell? ⟨gb785, 0, none⟩ = some (.int .i64 a0_0) := (blk_cell BK785.out 0).trans rfl; have hcz13_1 : w11.cell? ⟨gb785, 1, none⟩ = some (.int .i64 a0_1) := (blk_cell BK785.out 1).trans rfl; have hfz13_0 := blk_frozen BK785.out 0; have hfz13_1 := blk_frozen BK785.out 1; have hcz14_0 : w11.cell? ⟨gb786, 0, none⟩ = some (.int .i64 a1_0) := (blk_cell BK786.out 0).trans rfl; have hcz14_1 : w11.cell? ⟨gb786, 1, none⟩ = some (.int .i64 a1_1) := (blk_cell BK786.out 1).trans rfl; have hfz14_0 := blk_frozen BK786.out 0; have hfz14_1 := blk_frozen BK786.out 1))
   go_ret
   exact ⟨by first | rfl | (simp [errW_none, errW_some] <;> rfl) | (simp [*, errW_none, errW_some] <;> rfl), (q2_ HB.out GE785.out GE786.out)⟩
  ·rw [if_neg c9] at H
   have c9b0 : (a0_0 == a1_0) = false := beq_eq_false_iff_ne.mpr c9
   have c9b1 : (a0_0 != a1_0) = true := bne_iff_ne.mpr c9
   obtain rfl := Option.some.inj H
   go_enter Tryd.func90, Tryd.ntmps90
   go_wp2_with (first | ((with_reducible refine gate_dst (N := 2) rfl ?_); refine qx_ 2 #[.int .i64 a0_0, .int .i64 a0_1] 95 ?hr ?_; (case hr => first | (go_simp; done) | (go_simp; rfl)); intro gb785 hg w15 hbox hb; have n0_ := Aside0.mk (below_step (q0_ HB.out) hb); have n1_ := Aside0.mk (hbox); have n2_ := Aside0.mk (qs_ hg (q0_ HB.out) : w.heap.size ≤ gb785); have n3_ := n2_; clear HB; have HB := n0_; have BK785 := n1_; have GW785 := n2_; have GE785 := n3_; clear n0_ n1_ n2_ n3_; clear hb hbox hg) | ((with_reducible refine gate_dst (N := 3) rfl ?_); refine qx_ 3 #[.int .i64 a1_0, .int .i64 a1_1] 95 ?hr ?_; (case hr => first | (go_simp; done) | (go_simp; rfl)); intro gb786 hg w16 hbox hb; have n0_ := Aside0.mk (qk_ BK785.out hb); have n1_ := Aside0.mk (below_step (q1_ HB.out GE785.out) hb); have n2_ := Aside0.mk (hbox); have n3_ := Aside0.mk (qs_ hg (q1_ HB.out GE785.out) : w.heap.size ≤ gb786); have n4_ := n3_; have n5_ := Aside0.mk (qn_ hg BK785.out); have n6_ := Aside0.mk (Ne.symm (qn_ hg BK785.out)); clear BK785; clear HB; have BK785 := n0_; have HB := n1_; have BK786 := n2_; have GW786 := n3_; have GE786 := n4_; have NB785_786 := n5_; have NB786_785 := n6_; clear n0_ n1_ n2_ n3_ n4_ n5_ n6_; clear hb hbox hg; have hnb17 := NB785_786.out; have hnc17 := NB786_785.out; have hcz18_0 : w16.cell? ⟨gb785, 0, none⟩ = some (.int .i64 a0_0) := (blk_cell BK785.out 0).trans rfl; have hcz18_1 : w16.cell? ⟨gb785, 1, none⟩ = some (.int .i64 a0_1) := (blk_cell BK785.out 1).trans rfl; have hfz18_0 := blk_frozen BK785.out 0; have hfz18_1 := blk_frozen BK785.out 1; have hcz19_0 : w16.cell? ⟨gb786, 0, none⟩ = some (.int .i64 a1_0) := (blk_cell BK786.out 0).trans rfl; have hcz19_1 : w16.cell? ⟨gb786, 1, none⟩ = some (.int .i64 a1_1) := (blk_cell BK786.out 1).trans rfl; have hfz19_0 := blk_frozen BK786.out 0; have hfz19_1 := blk_frozen BK786.out 1))
   go_ret
   exact ⟨by first | rfl | (simp [errW_none, errW_some] <;> rfl) | (simp [*, errW_none, errW_some] <;> rfl), (q2_ HB.out GE785.out GE786.out)⟩
def merinoref01_product.f (a0 : Int) (a1 : Int) : Option (Int × Int) := some (wrap64 ((wrap64 ((wrap64 (Int.tdiv a0 67108864)) * a1)) + (wrap64 (Int.tdiv (wrap64 ((Int.tmod a0 67108864) * a1)) 67108864))), Int.tmod (wrap64 ((Int.tmod a0 67108864) * a1)) 67108864)
set_option maxHeartbeats 8000000 in
set_option maxRecDepth 100000 in
theorem merinoref01_product.calls (a0 : Int) (a1 : Int) (r1 : Int) (r2 : Int) (w : World) (h : merinoref01_product.f a0 a1 = some (r1, r2)) :
  Calls Tryd.prog 91 #[.int .i64 a0, .int .i64 a1] w fun e w' => e = .returned (.agg #[.int .i64 r1, .int .i64 r2]) ∧ Below w.heap.size w w' := by
 have hu95 := Tryd.underlying95
 have HB := Aside0.mk (Below.refl w.heap.size w)
 have H : (some (wrap64 ((wrap64 ((wrap64 (Int.tdiv a0 67108864)) * a1)) + (wrap64 (Int.tdiv (wrap64 ((Int.tmod a0 67108864) * a1)) 67108864))), Int.tmod (wrap64 ((Int.tmod a0 67108864) * a1)) 67108864)) = some (r1, r2) := h
 clear h
 simp only [Option.some.injEq, Prod.mk.injEq] at H
 obtain ⟨rfl, rfl⟩ := H
 go_enter Tryd.func91, Tryd.ntmps91
 go_wp2_with (first | ((with_reducible refine gate_dst (N := 4) rfl ?_); refine qx_ 4 #[.int .i64 0, .int .i64 0] 95 ?hr ?_; (case hr => first | (go_simp; done) | (go_simp; rfl)); intro gb787 hg w3 hbox hb; have n0_ := Aside0.mk (below_step (q0_ HB.out) hb); have n1_ := Aside0.mk (hbox); have n2_ := Aside0.mk (qs_ hg (q0_ HB.out) : w.heap.size ≤ gb787); have n3_ := n2_; clear HB; have HB := n0_; have BK787 := n1_; have GW787 := n2_; have GE787 := n3_; clear n0_ n1_ n2_ n3_; clear hb hbox hg; have hcz4_0 : w3.cell? ⟨gb787, 0, none⟩ = some (.int .i64 0) := (blk_cell BK787.out 0).trans rfl; have hcz4_1 : w3.cell? ⟨gb787, 1, none⟩ = some (.int .i64 0) := (blk_cell BK787.out 1).trans rfl; have hfz4_0 := blk_frozen BK787.out 0; have hfz4_1 := blk_frozen BK787.out 1))
 refine bodyPost_ret (results_cell_row rfl _ _ gb787 95 #[.int .i64 (wrap64 ((wrap64 ((wrap64 (Int.tdiv a0 67108864)) * a1)) + (wrap64 (Int.tdiv (wrap64 ((Int.tmod a0 67108864) * a1)) 67108864)))), .int .i64 (Int.tmod (wrap64 ((Int.tmod a0 67108864) * a1)) 67108864)] (0, 0) _ rfl (by refine qb_ ?_; refine blk_put (cs := #[.int .i64 (wrap64 ((wrap64 ((wrap64 (Int.tdiv a0 67108864)) * a1)) + (wrap64 (Int.tdiv (wrap64 ((Int.tmod a0 67108864) * a1)) 67108864)))), .int .i64 0]) ?_ 1 _ rfl; refine qb_ ?_; refine blk_put (cs := #[.int .i64 0, .int .i64 0]) ?_ 0 _ rfl; refine qb_ ?_; exact BK787.out) Tryd.underlying95 rfl (by kernel_rfl)) rfl ?_
 exact ⟨by first | rfl | (simp [errW_none, errW_some] <;> rfl) | (simp [*, errW_none, errW_some] <;> rfl), (q1_ HB.out GE787.out)⟩
end Go.Proofs.YtdjnneflpkllmaaDoor.Q

namespace Go.Proofs.Num
open Go.RowKit Go.Proofs.YtdjnneflpkllmaaDoorW.PrintWords Go.Proofs.YtdjnneflpkllmaaDoorW.PrintMore Go.Proofs.YtdjnneflpkllmaaDoor.Q
set_option linter.unusedVariables false
set_option linter.unusedSimpArgs false
theorem product_ok {a b : Int} (a0 : 0 ≤ a) (a1 : a < 4503599627370496) (b0 : 0 ≤ b) (b1 : b ≤ 2147483648) : merinoref01_product.f a b = some (a * b / 67108864, a * b % 67108864) := by
  unfold merinoref01_product.f
  rw [Int.tdiv_eq_ediv_of_nonneg a0, Int.tmod_eq_emod_of_nonneg a0]
  have h1 : 0 ≤ a / 67108864 * b := Int.mul_nonneg (by omega) b0
  have h2 : a / 67108864 * b ≤ 67108864 * 2147483648 := Int.mul_le_mul (by omega) b1 b0 (by omega)
  have h3 : 0 ≤ a % 67108864 * b := Int.mul_nonneg (by omega) b0
  have h4 : a % 67108864 * b ≤ 67108864 * 2147483648 := Int.mul_le_mul (by omega) b1 b0 (by omega)
  have e : a * b = a / 67108864 * b * 67108864 + a % 67108864 * b := by
    have : a = a / 67108864 * 67108864 + a % 67108864 := by omega
    conv => lhs; rw [this]
    rw [Int.add_mul]
    have : a / 67108864 * 67108864 * b = a / 67108864 * b * 67108864 := by grind
    omega
  rw [e, wd64 (x := a / 67108864) (by omega) (by omega)]
  generalize a / 67108864 * b = A at *
  generalize a % 67108864 * b = B at *
  rw [wd64 (x := B) (by omega) (by omega), Int.tdiv_eq_ediv_of_nonneg h3, Int.tmod_eq_emod_of_nonneg h3, wd64 (x := A) (by omega) (by omega), wd64 (x := B / 67108864) (by omega) (by omega), wd64 (x := A + B / 67108864) (by omega) (by omega)]
  congr 2 <;> omega
theorem less_ok (x y : Int) : merinoref01_less.f (x / 67108864) (x % 67108864) (y / 67108864) (y % 67108864) = some (decide (x < y)) := by
  unfold merinoref01_less.f
  by_cases h : x / 67108864 < y / 67108864
  · rw [if_pos h, decide_eq_true (by omega)]
  · rw [if_neg h]
    by_cases g : x / 67108864 = y / 67108864
    · rw [if_pos g]
      congr 1
      rw [decide_eq_decide]
      omega
    · rw [if_neg g, decide_eq_false (by omega)]
end Go.Proofs.Num
