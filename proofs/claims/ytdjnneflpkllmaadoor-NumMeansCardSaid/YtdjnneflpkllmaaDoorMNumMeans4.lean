/- Part 4 of the proof of NumMeans. -/
import Derived.Test.YtdjnneflpkllmaaDoorMNumMeans3

namespace Go.Proofs.YtdjnneflpkllmaaDoor.Q
open Go.RowKit Go.Proofs.YtdjnneflpkllmaaDoorW.PrintWords Go.Proofs.YtdjnneflpkllmaaDoorW.PrintLast Go.Proofs.YtdjnneflpkllmaaDoorW.PrintMore
attribute [local go_sem] max2_int min2_int max_two min_two max_three min_three max_four min_four   -- for this text's walks alone
set_option linter.unusedVariables false
set_option linter.unusedSimpArgs false
def num_gcd.l0 : Nat → Int → Int → Option (Int)
  | 0, _, _ => none
  | k + 1, x0, x1 => if x1 = 0 then (some x0) else (num_gcd.l0 k x1 (Int.tmod x0 x1))
def num_gcd.f (k : Nat) (a0 : Int) (a1 : Int) : Option (Int) := num_gcd.l0 k a0 a1
theorem num_gcd.mono_l : ∀ k, (∀ y0 y1, LeO (num_gcd.l0 k y0 y1) (num_gcd.l0 (k + 1) y0 y1))
  | 0 => fun _ _ r h => by simp [num_gcd.l0] at h
  | k + 1 => by
    have ih0 := num_gcd.mono_l k
    · intro y0 y1
      unfold num_gcd.l0
      repeat' first
      | (with_reducible exact ih0 _ _)
      | (with_reducible exact LeO.refl _)
      | (with_reducible exact LeO.none _)
      | (with_reducible refine LeO.ite ?_ ?_)
      | (with_reducible refine LeO.bind ?_ (fun _ => ?_))
      | exact ih0 _ _
      | exact LeO.none _
      | refine LeO.ite ?_ ?_
      | refine LeO.bind ?_ (fun _ => ?_)
theorem num_gcd.mono : ∀ a0 a1 k, LeO (num_gcd.f k a0 a1) (num_gcd.f (k + 1) a0 a1) := by
  intro a0 a1 k
  have ih0 := num_gcd.mono_l k
  unfold num_gcd.f
  repeat' first
      | (with_reducible exact ih0 _ _)
      | (with_reducible exact LeO.refl _)
      | (with_reducible exact LeO.none _)
      | (with_reducible refine LeO.ite ?_ ?_)
      | (with_reducible refine LeO.bind ?_ (fun _ => ?_))
      | exact ih0 _ _
      | exact LeO.none _
      | refine LeO.ite ?_ ?_
      | refine LeO.bind ?_ (fun _ => ?_)
set_option maxHeartbeats 8000000 in
set_option maxRecDepth 100000 in
theorem num_gcd.calls (k : Nat) (a0 : Int) (a1 : Int) (r : Int) (w : World) (h : num_gcd.f k a0 a1 = some r) :
    Calls Tryd.prog 77 #[.int .u64 a0, .int .u64 a1] w fun e w' => e = .returned (.int .u64 r) ∧ Drawn0 w w' := by
  have H : (num_gcd.l0 k a0 a1) = some r := h
  clear h
  have H' := Aside0.mk H
  clear H
  go_enter Tryd.func77, Tryd.ntmps77
  go_wp2
  repeat (go_quiet (fail); try go_wp2)
  go_loopg [0, 1] k (fun kq v0 v1 w' => ∃ (x0_1 : Int) (x1_1 : Int), v0 = .int .u64 x0_1 ∧ v1 = .int .u64 x1_1 ∧ Aside0 (num_gcd.l0 kq x0_1 x1_1 = some r) ∧ Aside0 (kq ≤ k) ∧ Drawn0 w w')
  case atStart => exact ⟨(a0), (a1), (by first | rfl | (simp; done) | (simp [*]; done)), (by first | rfl | (simp; done) | (simp [*]; done)), H', ⟨Nat.le_refl _⟩, by repeat (first | exact Drawn0.refl _ | apply Drawn0.step)⟩
  case round =>
    clear H'
    try clear p2
    obtain ⟨x0_1, x1_1, rfl, rfl, HA, HK1, ⟨m1, rfl⟩⟩ := hrel
    cases gk with
    | zero => exact absurd HA.out (by simp [num_gcd.l0])
    | succ k1 =>
      have H := HA.out
      clear HA
      simp only [num_gcd.l0] at H
      by_cases c3 : x1_1 = 0
      · rw [if_pos c3] at H
        have c3b0 : (x1_1 == 0) = true := beq_iff_eq.mpr c3
        have c3b1 : (x1_1 != 0) = false := bne_eq_false_iff_eq.mpr c3
        clear c3
        obtain rfl := Option.some.inj H
        go_wp2
        repeat (go_quiet (fail); try go_wp2)
        go_ret
        exact ⟨by first | rfl | (simp; done) | (simp [*]; done), by repeat (first | exact Drawn0.refl _ | apply Drawn0.step)⟩
      · rw [if_neg c3] at H
        have c3b0 : (x1_1 == 0) = false := beq_eq_false_iff_ne.mpr c3
        have c3b1 : (x1_1 != 0) = true := bne_iff_ne.mpr c3
        have H' := Aside0.mk H
        clear H
        go_wp2
        repeat (go_quiet (fail); try go_wp2)
        go_roundg k1
        case measure => have := HK1.out; omega
        case rel => exact ⟨(x1_1), (Int.tmod x0_1 x1_1), (by first | rfl | (simp; done) | (simp [*]; done)), (by first | rfl | (simp; done) | (simp [*]; done)), H', ⟨by have := HK1.out; omega⟩, by repeat (first | exact Drawn0.refl _ | apply Drawn0.step)⟩
def num_Valid.f (k : Nat) (a0_0 : Int) (a0_1 : Int) : Option (Bool) := if a0_1 ≥ 1 then (if a0_1 ≤ 1048576 then (if a0_0 ≥ (-1099511627776) then (if a0_0 ≤ 1099511627776 then ((num_size.f a0_0).bind fun t116 => ((num_gcd.f k t116 (IntKind.u64.wrap (a0_1))).bind fun t117 => (some (t117 == 1)))) else (some false)) else (some false)) else (some false)) else (some false)
theorem num_Valid.mono : ∀ a0 a1 k, LeO (num_Valid.f k a0 a1) (num_Valid.f (k + 1) a0 a1) := by
  intro a0 a1 k
  unfold num_Valid.f
  repeat' first
      | (with_reducible exact num_gcd.mono _ _ _)
      | (with_reducible exact LeO.refl _)
      | (with_reducible exact LeO.none _)
      | (with_reducible refine LeO.ite ?_ ?_)
      | (with_reducible refine LeO.bind ?_ (fun _ => ?_))
      | exact num_gcd.mono _ _ _
      | exact LeO.none _
      | refine LeO.ite ?_ ?_
      | refine LeO.bind ?_ (fun _ => ?_)
set_option maxHeartbeats 8000000 in
set_option maxRecDepth 100000 in
theorem num_Valid.calls (k : Nat) (a0_0 : Int) (a0_1 : Int) (r : Bool) (w : World) (h : num_Valid.f k a0_0 a0_1 = some r) :
    Calls Tryd.prog 26 #[.agg #[.int .i64 a0_0, .int .i64 a0_1]] w fun e w' => e = .returned (.bool r) ∧ Below w.heap.size w w' := by
  have hu23 := Tryd.underlying23
  have HB := Aside0.mk (Below.refl w.heap.size w)
  have H : (if a0_1 ≥ 1 then (if a0_1 ≤ 1048576 then (if a0_0 ≥ (-1099511627776) then (if a0_0 ≤ 1099511627776 then ((num_size.f a0_0).bind fun t116 => ((num_gcd.f k t116 (IntKind.u64.wrap (a0_1))).bind fun t117 => (some (t117 == 1)))) else (some false)) else (some false)) else (some false)) else (some false)) = some r := h
  clear h
  by_cases c2 : a0_1 ≥ 1
  · rw [if_pos c2] at H
    have c2b0 : decide (1 ≤ a0_1) = true := decide_eq_true c2
    clear c2
    by_cases c3 : a0_1 ≤ 1048576
    · rw [if_pos c3] at H
      have c3b0 : decide (a0_1 ≤ 1048576) = true := decide_eq_true c3
      clear c3
      by_cases c4 : a0_0 ≥ (-1099511627776)
      · rw [if_pos c4] at H
        have c4b0 : decide ((-1099511627776) ≤ a0_0) = true := decide_eq_true c4
        clear c4
        by_cases c5 : a0_0 ≤ 1099511627776
        · rw [if_pos c5] at H
          have c5b0 : decide (a0_0 ≤ 1099511627776) = true := decide_eq_true c5
          clear c5
          replace H := Option.bind_eq_some_iff.mp H
          obtain ⟨t116, A60, H⟩ := H
          replace H : ((num_gcd.f k t116 (IntKind.u64.wrap (a0_1))).bind fun t117 => (some (t117 == 1))) = some r := H
          have A6 := Aside0.mk A60
          clear A60
          replace H := Option.bind_eq_some_iff.mp H
          obtain ⟨t117, A70, H⟩ := H
          replace H : (some (t117 == 1)) = some r := H
          have A7 := Aside0.mk A70
          clear A70
          obtain rfl := Option.some.inj H
          go_enter Tryd.func26, Tryd.ntmps26
          go_wp2_with (first | ((with_reducible refine gate_dst (N := 1) rfl ?_); refine box_event ?hg (N := 1) ?hd (cs := #[.int .i64 a0_0, .int .i64 a0_1]) (t := 23) ?hr ?_; (case hd => rfl); (case hg => rfl); (case hr => first | (go_simp; done) | (go_simp; rfl)); intro gb115 hg w8 hbox hb; have n0_ := Aside0.mk (below_step (q0_ HB.out) hb); have n1_ := Aside0.mk (hbox); have n2_ := Aside0.mk ((by rw [hg]; exact (below_size (q0_ HB.out)) : w.heap.size ≤ gb115)); have n3_ := Aside0.mk ((by rw [hg]; exact (below_size (q0_ HB.out)) : w.heap.size ≤ gb115)); clear HB; have HB := n0_; have BK115 := n1_; have GW115 := n2_; have GE115 := n3_; clear n0_ n1_ n2_ n3_; clear hb hbox hg; have hcz9_0 : w8.cell? ⟨gb115, 0, none⟩ = some (.int .i64 a0_0) := (blk_cell BK115.out 0).trans rfl; have hcz9_1 : w8.cell? ⟨gb115, 1, none⟩ = some (.int .i64 a0_1) := (blk_cell BK115.out 1).trans rfl; have hfz9_0 := blk_frozen BK115.out 0; have hfz9_1 := blk_frozen BK115.out 1) | (go_at_call 78; (with_reducible refine (num_size.calls a0_0 t116 _ A6.out).mono ?_); rintro e w' ⟨rfl, ⟨nd, rfl⟩⟩; (try first | exact ⟨rfl, _, World.drewN_drewN _ _ _⟩ | exact ⟨rfl, _, Eq.trans (World.drewN_drewN _ _ _) (congrArg (World.drewN _) (Nat.add_assoc _ _ _))⟩)) | (go_at_call 77; (with_reducible refine (num_gcd.calls k t116 (IntKind.u64.wrap (a0_1)) t117 _ A7.out).mono ?_); rintro e w' ⟨rfl, ⟨nd, rfl⟩⟩; (try first | exact ⟨rfl, _, World.drewN_drewN _ _ _⟩ | exact ⟨rfl, _, Eq.trans (World.drewN_drewN _ _ _) (congrArg (World.drewN _) (Nat.add_assoc _ _ _))⟩)))
          repeat (go_quiet (first | ((with_reducible refine gate_dst (N := 1) rfl ?_); refine box_event ?hg (N := 1) ?hd (cs := #[.int .i64 a0_0, .int .i64 a0_1]) (t := 23) ?hr ?_; (case hd => rfl); (case hg => rfl); (case hr => first | (go_simp; done) | (go_simp; rfl)); intro gb115 hg w8 hbox hb; have n0_ := Aside0.mk (below_step (q0_ HB.out) hb); have n1_ := Aside0.mk (hbox); have n2_ := Aside0.mk ((by rw [hg]; exact (below_size (q0_ HB.out)) : w.heap.size ≤ gb115)); have n3_ := Aside0.mk ((by rw [hg]; exact (below_size (q0_ HB.out)) : w.heap.size ≤ gb115)); clear HB; have HB := n0_; have BK115 := n1_; have GW115 := n2_; have GE115 := n3_; clear n0_ n1_ n2_ n3_; clear hb hbox hg; have hcz9_0 : w8.cell? ⟨gb115, 0, none⟩ = some (.int .i64 a0_0) := (blk_cell BK115.out 0).trans rfl; have hcz9_1 : w8.cell? ⟨gb115, 1, none⟩ = some (.int .i64 a0_1) := (blk_cell BK115.out 1).trans rfl; have hfz9_0 := blk_frozen BK115.out 0; have hfz9_1 := blk_frozen BK115.out 1) | (go_at_call 78; (with_reducible refine (num_size.calls a0_0 t116 _ A6.out).mono ?_); rintro e w' ⟨rfl, ⟨nd, rfl⟩⟩; (try first | exact ⟨rfl, _, World.drewN_drewN _ _ _⟩ | exact ⟨rfl, _, Eq.trans (World.drewN_drewN _ _ _) (congrArg (World.drewN _) (Nat.add_assoc _ _ _))⟩)) | (go_at_call 77; (with_reducible refine (num_gcd.calls k t116 (IntKind.u64.wrap (a0_1)) t117 _ A7.out).mono ?_); rintro e w' ⟨rfl, ⟨nd, rfl⟩⟩; (try first | exact ⟨rfl, _, World.drewN_drewN _ _ _⟩ | exact ⟨rfl, _, Eq.trans (World.drewN_drewN _ _ _) (congrArg (World.drewN _) (Nat.add_assoc _ _ _))⟩))); try go_wp2_with (first | ((with_reducible refine gate_dst (N := 1) rfl ?_); refine box_event ?hg (N := 1) ?hd (cs := #[.int .i64 a0_0, .int .i64 a0_1]) (t := 23) ?hr ?_; (case hd => rfl); (case hg => rfl); (case hr => first | (go_simp; done) | (go_simp; rfl)); intro gb115 hg w8 hbox hb; have n0_ := Aside0.mk (below_step (q0_ HB.out) hb); have n1_ := Aside0.mk (hbox); have n2_ := Aside0.mk ((by rw [hg]; exact (below_size (q0_ HB.out)) : w.heap.size ≤ gb115)); have n3_ := Aside0.mk ((by rw [hg]; exact (below_size (q0_ HB.out)) : w.heap.size ≤ gb115)); clear HB; have HB := n0_; have BK115 := n1_; have GW115 := n2_; have GE115 := n3_; clear n0_ n1_ n2_ n3_; clear hb hbox hg; have hcz9_0 : w8.cell? ⟨gb115, 0, none⟩ = some (.int .i64 a0_0) := (blk_cell BK115.out 0).trans rfl; have hcz9_1 : w8.cell? ⟨gb115, 1, none⟩ = some (.int .i64 a0_1) := (blk_cell BK115.out 1).trans rfl; have hfz9_0 := blk_frozen BK115.out 0; have hfz9_1 := blk_frozen BK115.out 1) | (go_at_call 78; (with_reducible refine (num_size.calls a0_0 t116 _ A6.out).mono ?_); rintro e w' ⟨rfl, ⟨nd, rfl⟩⟩; (try first | exact ⟨rfl, _, World.drewN_drewN _ _ _⟩ | exact ⟨rfl, _, Eq.trans (World.drewN_drewN _ _ _) (congrArg (World.drewN _) (Nat.add_assoc _ _ _))⟩)) | (go_at_call 77; (with_reducible refine (num_gcd.calls k t116 (IntKind.u64.wrap (a0_1)) t117 _ A7.out).mono ?_); rintro e w' ⟨rfl, ⟨nd, rfl⟩⟩; (try first | exact ⟨rfl, _, World.drewN_drewN _ _ _⟩ | exact ⟨rfl, _, Eq.trans (World.drewN_drewN _ _ _) (congrArg (World.drewN _) (Nat.add_assoc _ _ _))⟩))))
          go_ret
          exact ⟨by first | rfl | (simp [errW_none, errW_some] <;> rfl) | (simp [*, errW_none, errW_some] <;> rfl), (q1_ HB.out GE115.out)⟩
        · rw [if_neg c5] at H
          have c5b0 : decide (a0_0 ≤ 1099511627776) = false := decide_eq_false c5
          clear c5
          obtain rfl := Option.some.inj H
          go_enter Tryd.func26, Tryd.ntmps26
          go_wp2_with (first | ((with_reducible refine gate_dst (N := 1) rfl ?_); refine box_event ?hg (N := 1) ?hd (cs := #[.int .i64 a0_0, .int .i64 a0_1]) (t := 23) ?hr ?_; (case hd => rfl); (case hg => rfl); (case hr => first | (go_simp; done) | (go_simp; rfl)); intro gb115 hg w10 hbox hb; have n0_ := Aside0.mk (below_step (q0_ HB.out) hb); have n1_ := Aside0.mk (hbox); have n2_ := Aside0.mk ((by rw [hg]; exact (below_size (q0_ HB.out)) : w.heap.size ≤ gb115)); have n3_ := Aside0.mk ((by rw [hg]; exact (below_size (q0_ HB.out)) : w.heap.size ≤ gb115)); clear HB; have HB := n0_; have BK115 := n1_; have GW115 := n2_; have GE115 := n3_; clear n0_ n1_ n2_ n3_; clear hb hbox hg; have hcz11_0 : w10.cell? ⟨gb115, 0, none⟩ = some (.int .i64 a0_0) := (blk_cell BK115.out 0).trans rfl; have hcz11_1 : w10.cell? ⟨gb115, 1, none⟩ = some (.int .i64 a0_1) := (blk_cell BK115.out 1).trans rfl; have hfz11_0 := blk_frozen BK115.out 0; have hfz11_1 := blk_frozen BK115.out 1))
          repeat (go_quiet (first | ((with_reducible refine gate_dst (N := 1) rfl ?_); refine box_event ?hg (N := 1) ?hd (cs := #[.int .i64 a0_0, .int .i64 a0_1]) (t := 23) ?hr ?_; (case hd => rfl); (case hg => rfl); (case hr => first | (go_simp; done) | (go_simp; rfl)); intro gb115 hg w10 hbox hb; have n0_ := Aside0.mk (below_step (q0_ HB.out) hb); have n1_ := Aside0.mk (hbox); have n2_ := Aside0.mk ((by rw [hg]; exact (below_size (q0_ HB.out)) : w.heap.size ≤ gb115)); have n3_ := Aside0.mk ((by rw [hg]; exact (below_size (q0_ HB.out)) : w.heap.size ≤ gb115)); clear HB; have HB := n0_; have BK115 := n1_; have GW115 := n2_; have GE115 := n3_; clear n0_ n1_ n2_ n3_; clear hb hbox hg; have hcz11_0 : w10.cell? ⟨gb115, 0, none⟩ = some (.int .i64 a0_0) := (blk_cell BK115.out 0).trans rfl; have hcz11_1 : w10.cell? ⟨gb115, 1, none⟩ = some (.int .i64 a0_1) := (blk_cell BK115.out 1).trans rfl; have hfz11_0 := blk_frozen BK115.out 0; have hfz11_1 := blk_frozen BK115.out 1)); try go_wp2_with (first | ((with_reducible refine gate_dst (N := 1) rfl ?_); refine box_event ?hg (N := 1) ?hd (cs := #[.int .i64 a0_0, .int .i64 a0_1]) (t := 23) ?hr ?_; (case hd => rfl); (case hg => rfl); (case hr => first | (go_simp; done) | (go_simp; rfl)); intro gb115 hg w10 hbox hb; have n0_ := Aside0.mk (below_step (q0_ HB.out) hb); have n1_ := Aside0.mk (hbox); have n2_ := Aside0.mk ((by rw [hg]; exact (below_size (q0_ HB.out)) : w.heap.size ≤ gb115)); have n3_ := Aside0.mk ((by rw [hg]; exact (below_size (q0_ HB.out)) : w.heap.size ≤ gb115)); clear HB; have HB := n0_; have BK115 := n1_; have GW115 := n2_; have GE115 := n3_; clear n0_ n1_ n2_ n3_; clear hb hbox hg; have hcz11_0 : w10.cell? ⟨gb115, 0, none⟩ = some (.int .i64 a0_0) := (blk_cell BK115.out 0).trans rfl; have hcz11_1 : w10.cell? ⟨gb115, 1, none⟩ = some (.int .i64 a0_1) := (blk_cell BK115.out 1).trans rfl; have hfz11_0 := blk_frozen BK115.out 0; have hfz11_1 := blk_frozen BK115.out 1)))
          go_ret
          exact ⟨by first | rfl | (simp [errW_none, errW_some] <;> rfl) | (simp [*, errW_none, errW_some] <;> rfl), (q1_ HB.out GE115.out)⟩
      · rw [if_neg c4] at H
        have c4b0 : decide ((-1099511627776) ≤ a0_0) = false := decide_eq_false c4
        clear c4
        obtain rfl := Option.some.inj H
        go_enter Tryd.func26, Tryd.ntmps26
        go_wp2_with (first | ((with_reducible refine gate_dst (N := 1) rfl ?_); refine box_event ?hg (N := 1) ?hd (cs := #[.int .i64 a0_0, .int .i64 a0_1]) (t := 23) ?hr ?_; (case hd => rfl); (case hg => rfl); (case hr => first | (go_simp; done) | (go_simp; rfl)); intro gb115 hg w12 hbox hb; have n0_ := Aside0.mk (below_step (q0_ HB.out) hb); have n1_ := Aside0.mk (hbox); have n2_ := Aside0.mk ((by rw [hg]; exact (below_size (q0_ HB.out)) : w.heap.size ≤ gb115)); have n3_ := Aside0.mk ((by rw [hg]; exact (below_size (q0_ HB.out)) : w.heap.size ≤ gb115)); clear HB; have HB := n0_; have BK115 := n1_; have GW115 := n2_; have GE115 := n3_; clear n0_ n1_ n2_ n3_; clear hb hbox hg; have hcz13_0 : w12.cell? ⟨gb115, 0, none⟩ = some (.int .i64 a0_0) := (blk_cell BK115.out 0).trans rfl; have hcz13_1 : w12.cell? ⟨gb115, 1, none⟩ = some (.int .i64 a0_1) := (blk_cell BK115.out 1).trans rfl; have hfz13_0 := blk_frozen BK115.out 0; have hfz13_1 := blk_frozen BK115.out 1))
        repeat (go_quiet (first | ((with_reducible refine gate_dst (N := 1) rfl ?_); refine box_event ?hg (N := 1) ?hd (cs := #[.int .i64 a0_0, .int .i64 a0_1]) (t := 23) ?hr ?_; (case hd => rfl); (case hg => rfl); (case hr => first | (go_simp; done) | (go_simp; rfl)); intro gb115 hg w12 hbox hb; have n0_ := Aside0.mk (below_step (q0_ HB.out) hb); have n1_ := Aside0.mk (hbox); have n2_ := Aside0.mk ((by rw [hg]; exact (below_size (q0_ HB.out)) : w.heap.size ≤ gb115)); have n3_ := Aside0.mk ((by rw [hg]; exact (below_size (q0_ HB.out)) : w.heap.size ≤ gb115)); clear HB; have HB := n0_; have BK115 := n1_; have GW115 := n2_; have GE115 := n3_; clear n0_ n1_ n2_ n3_; clear hb hbox hg; have hcz13_0 : w12.cell? ⟨gb115, 0, none⟩ = some (.int .i64 a0_0) := (blk_cell BK115.out 0).trans rfl; have hcz13_1 : w12.cell? ⟨gb115, 1, none⟩ = some (.int .i64 a0_1) := (blk_cell BK115.out 1).trans rfl; have hfz13_0 := blk_frozen BK115.out 0; have hfz13_1 := blk_frozen BK115.out 1)); try go_wp2_with (first | ((with_reducible refine gate_dst (N := 1) rfl ?_); refine box_event ?hg (N := 1) ?hd (cs := #[.int .i64 a0_0, .int .i64 a0_1]) (t := 23) ?hr ?_; (case hd => rfl); (case hg => rfl); (case hr => first | (go_simp; done) | (go_simp; rfl)); intro gb115 hg w12 hbox hb; have n0_ := Aside0.mk (below_step (q0_ HB.out) hb); have n1_ := Aside0.mk (hbox); have n2_ := Aside0.mk ((by rw [hg]; exact (below_size (q0_ HB.out)) : w.heap.size ≤ gb115)); have n3_ := Aside0.mk ((by rw [hg]; exact (below_size (q0_ HB.out)) : w.heap.size ≤ gb115)); clear HB; have HB := n0_; have BK115 := n1_; have GW115 := n2_; have GE115 := n3_; clear n0_ n1_ n2_ n3_; clear hb hbox hg; have hcz13_0 : w12.cell? ⟨gb115, 0, none⟩ = some (.int .i64 a0_0) := (blk_cell BK115.out 0).trans rfl; have hcz13_1 : w12.cell? ⟨gb115, 1, none⟩ = some (.int .i64 a0_1) := (blk_cell BK115.out 1).trans rfl; have hfz13_0 := blk_frozen BK115.out 0; have hfz13_1 := blk_frozen BK115.out 1)))
        go_ret
        exact ⟨by first | rfl | (simp [errW_none, errW_some] <;> rfl) | (simp [*, errW_none, errW_some] <;> rfl), (q1_ HB.out GE115.out)⟩
    · rw [if_neg c3] at H
      have c3b0 : decide (a0_1 ≤ 1048576) = false := decide_eq_false c3
      clear c3
      obtain rfl := Option.some.inj H
      go_enter Tryd.func26, Tryd.ntmps26
      go_wp2_with (first | ((with_reducible refine gate_dst (N := 1) rfl ?_); refine box_event ?hg (N := 1) ?hd (cs := #[.int .i64 a0_0, .int .i64 a0_1]) (t := 23) ?hr ?_; (case hd => rfl); (case hg => rfl); (case hr => first | (go_simp; done) | (go_simp; rfl)); intro gb115 hg w14 hbox hb; have n0_ := Aside0.mk (below_step (q0_ HB.out) hb); have n1_ := Aside0.mk (hbox); have n2_ := Aside0.mk ((by rw [hg]; exact (below_size (q0_ HB.out)) : w.heap.size ≤ gb115)); have n3_ := Aside0.mk ((by rw [hg]; exact (below_size (q0_ HB.out)) : w.heap.size ≤ gb115)); clear HB; have HB := n0_; have BK115 := n1_; have GW115 := n2_; have GE115 := n3_; clear n0_ n1_ n2_ n3_; clear hb hbox hg; have hcz15_0 : w14.cell? ⟨gb115, 0, none⟩ = some (.int .i64 a0_0) := (blk_cell BK115.out 0).trans rfl; have hcz15_1 : w14.cell? ⟨gb115, 1, none⟩ = some (.int .i64 a0_1) := (blk_cell BK115.out 1).trans rfl; have hfz15_0 := blk_frozen BK115.out 0; have hfz15_1 := blk_frozen BK115.out 1))
      repeat (go_quiet (first | ((with_reducible refine gate_dst (N := 1) rfl ?_); refine box_event ?hg (N := 1) ?hd (cs := #[.int .i64 a0_0, .int .i64 a0_1]) (t := 23) ?hr ?_; (case hd => rfl); (case hg => rfl); (case hr => first | (go_simp; done) | (go_simp; rfl)); intro gb115 hg w14 hbox hb; have n0_ := Aside0.mk (below_step (q0_ HB.out) hb); have n1_ := Aside0.mk (hbox); have n2_ := Aside0.mk ((by rw [hg]; exact (below_size (q0_ HB.out)) : w.heap.size ≤ gb115)); have n3_ := Aside0.mk ((by rw [hg]; exact (below_size (q0_ HB.out)) : w.heap.size ≤ gb115)); clear HB; have HB := n0_; have BK115 := n1_; have GW115 := n2_; have GE115 := n3_; clear n0_ n1_ n2_ n3_; clear hb hbox hg; have hcz15_0 : w14.cell? ⟨gb115, 0, none⟩ = some (.int .i64 a0_0) := (blk_cell BK115.out 0).trans rfl; have hcz15_1 : w14.cell? ⟨gb115, 1, none⟩ = some (.int .i64 a0_1) := (blk_cell BK115.out 1).trans rfl; have hfz15_0 := blk_frozen BK115.out 0; have hfz15_1 := blk_frozen BK115.out 1)); try go_wp2_with (first | ((with_reducible refine gate_dst (N := 1) rfl ?_); refine box_event ?hg (N := 1) ?hd (cs := #[.int .i64 a0_0, .int .i64 a0_1]) (t := 23) ?hr ?_; (case hd => rfl); (case hg => rfl); (case hr => first | (go_simp; done) | (go_simp; rfl)); intro gb115 hg w14 hbox hb; have n0_ := Aside0.mk (below_step (q0_ HB.out) hb); have n1_ := Aside0.mk (hbox); have n2_ := Aside0.mk ((by rw [hg]; exact (below_size (q0_ HB.out)) : w.heap.size ≤ gb115)); have n3_ := Aside0.mk ((by rw [hg]; exact (below_size (q0_ HB.out)) : w.heap.size ≤ gb115)); clear HB; have HB := n0_; have BK115 := n1_; have GW115 := n2_; have GE115 := n3_; clear n0_ n1_ n2_ n3_; clear hb hbox hg; have hcz15_0 : w14.cell? ⟨gb115, 0, none⟩ = some (.int .i64 a0_0) := (blk_cell BK115.out 0).trans rfl; have hcz15_1 : w14.cell? ⟨gb115, 1, none⟩ = some (.int .i64 a0_1) := (blk_cell BK115.out 1).trans rfl; have hfz15_0 := blk_frozen BK115.out 0; have hfz15_1 := blk_frozen BK115.out 1)))
      go_ret
      exact ⟨by first | rfl | (simp [errW_none, errW_some] <;> rfl) | (simp [*, errW_none, errW_some] <;> rfl), (q1_ HB.out GE115.out)⟩
  · rw [if_neg c2] at H
    have c2b0 : decide (1 ≤ a0_1) = false := decide_eq_false c2
    clear c2
    obtain rfl := Option.some.inj H
    go_enter Tryd.func26, Tryd.ntmps26
    go_wp2_with (first | ((with_reducible refine gate_dst (N := 1) rfl ?_); refine box_event ?hg (N := 1) ?hd (cs := #[.int .i64 a0_0, .int .i64 a0_1]) (t := 23) ?hr ?_; (case hd => rfl); (case hg => rfl); (case hr => first | (go_simp; done) | (go_simp; rfl)); intro gb115 hg w16 hbox hb; have n0_ := Aside0.mk (below_step (q0_ HB.out) hb); have n1_ := Aside0.mk (hbox); have n2_ := Aside0.mk ((by rw [hg]; exact (below_size (q0_ HB.out)) : w.heap.size ≤ gb115)); have n3_ := Aside0.mk ((by rw [hg]; exact (below_size (q0_ HB.out)) : w.heap.size ≤ gb115)); clear HB; have HB := n0_; have BK115 := n1_; have GW115 := n2_; have GE115 := n3_; clear n0_ n1_ n2_ n3_; clear hb hbox hg; have hcz17_0 : w16.cell? ⟨gb115, 0, none⟩ = some (.int .i64 a0_0) := (blk_cell BK115.out 0).trans rfl; have hcz17_1 : w16.cell? ⟨gb115, 1, none⟩ = some (.int .i64 a0_1) := (blk_cell BK115.out 1).trans rfl; have hfz17_0 := blk_frozen BK115.out 0; have hfz17_1 := blk_frozen BK115.out 1))
    repeat (go_quiet (first | ((with_reducible refine gate_dst (N := 1) rfl ?_); refine box_event ?hg (N := 1) ?hd (cs := #[.int .i64 a0_0, .int .i64 a0_1]) (t := 23) ?hr ?_; (case hd => rfl); (case hg => rfl); (case hr => first | (go_simp; done) | (go_simp; rfl)); intro gb115 hg w16 hbox hb; have n0_ := Aside0.mk (below_step (q0_ HB.out) hb); have n1_ := Aside0.mk (hbox); have n2_ := Aside0.mk ((by rw [hg]; exact (below_size (q0_ HB.out)) : w.heap.size ≤ gb115)); have n3_ := Aside0.mk ((by rw [hg]; exact (below_size (q0_ HB.out)) : w.heap.size ≤ gb115)); clear HB; have HB := n0_; have BK115 := n1_; have GW115 := n2_; have GE115 := n3_; clear n0_ n1_ n2_ n3_; clear hb hbox hg; have hcz17_0 : w16.cell? ⟨gb115, 0, none⟩ = some (.int .i64 a0_0) := (blk_cell BK115.out 0).trans rfl; have hcz17_1 : w16.cell? ⟨gb115, 1, none⟩ = some (.int .i64 a0_1) := (blk_cell BK115.out 1).trans rfl; have hfz17_0 := blk_frozen BK115.out 0; have hfz17_1 := blk_frozen BK115.out 1)); try go_wp2_with (first | ((with_reducible refine gate_dst (N := 1) rfl ?_); refine box_event ?hg (N := 1) ?hd (cs := #[.int .i64 a0_0, .int .i64 a0_1]) (t := 23) ?hr ?_; (case hd => rfl); (case hg => rfl); (case hr => first | (go_simp; done) | (go_simp; rfl)); intro gb115 hg w16 hbox hb; have n0_ := Aside0.mk (below_step (q0_ HB.out) hb); have n1_ := Aside0.mk (hbox); have n2_ := Aside0.mk ((by rw [hg]; exact (below_size (q0_ HB.out)) : w.heap.size ≤ gb115)); have n3_ := Aside0.mk ((by rw [hg]; exact (below_size (q0_ HB.out)) : w.heap.size ≤ gb115)); clear HB; have HB := n0_; have BK115 := n1_; have GW115 := n2_; have GE115 := n3_; clear n0_ n1_ n2_ n3_; clear hb hbox hg; have hcz17_0 : w16.cell? ⟨gb115, 0, none⟩ = some (.int .i64 a0_0) := (blk_cell BK115.out 0).trans rfl; have hcz17_1 : w16.cell? ⟨gb115, 1, none⟩ = some (.int .i64 a0_1) := (blk_cell BK115.out 1).trans rfl; have hfz17_0 := blk_frozen BK115.out 0; have hfz17_1 := blk_frozen BK115.out 1)))
    go_ret
    exact ⟨by first | rfl | (simp [errW_none, errW_some] <;> rfl) | (simp [*, errW_none, errW_some] <;> rfl), (q1_ HB.out GE115.out)⟩
end Go.Proofs.YtdjnneflpkllmaaDoor.Q

namespace Go.Proofs.YtdjnneflpkllmaaDoor.Q
open Go.RowKit Go.Proofs.YtdjnneflpkllmaaDoorW.PrintWords Go.Proofs.YtdjnneflpkllmaaDoorW.PrintLast Go.Proofs.YtdjnneflpkllmaaDoorW.PrintMore
attribute [local go_sem] max2_int min2_int max_two min_two max_three min_three max_four min_four   -- for this text's walks alone
set_option linter.unusedVariables false
set_option linter.unusedSimpArgs false
def num_mode.f (a0 : Int) : Option (Bool) := if a0 ≥ 0 then (some (decide (a0 ≤ 4))) else (some false)
set_option maxHeartbeats 8000000 in
set_option maxRecDepth 100000 in
theorem num_mode.calls (a0 : Int) (r : Bool) (w : World) (h : num_mode.f a0 = some r) :
    Calls Tryd.prog 85 #[.int .i64 a0] w fun e w' => e = .returned (.bool r) ∧ Drawn0 w w' := by
  have H : (if a0 ≥ 0 then (some (decide (a0 ≤ 4))) else (some false)) = some r := h
  clear h
  by_cases c2 : a0 ≥ 0
  · rw [if_pos c2] at H
    have c2b0 : decide (0 ≤ a0) = true := decide_eq_true c2
    clear c2
    obtain rfl := Option.some.inj H
    go_enter Tryd.func85, Tryd.ntmps85
    go_wp2
    go_ret
    exact ⟨by first | rfl | (simp; done) | (simp [*]; done), by repeat (first | exact Drawn0.refl _ | apply Drawn0.step)⟩
  · rw [if_neg c2] at H
    have c2b0 : decide (0 ≤ a0) = false := decide_eq_false c2
    clear c2
    obtain rfl := Option.some.inj H
    go_enter Tryd.func85, Tryd.ntmps85
    go_wp2
    go_ret
    exact ⟨by first | rfl | (simp; done) | (simp [*]; done), by repeat (first | exact Drawn0.refl _ | apply Drawn0.step)⟩
def num_away.f (a0 : Bool) (a1 : Int) (a2 : Int) (a3 : Int) (a4 : Int) : Option (Bool) := if a2 = 0 then (some false) else (if a4 = 0 then (some a0) else (if a4 = 1 then (some (!a0)) else (if a4 = 2 then (some false) else (if a2 > (IntKind.u64.wrap (a3 - a2)) then (some true) else (if a2 < (IntKind.u64.wrap (a3 - a2)) then (some false) else (if a4 = 3 then (some (!a0)) else (some ((Int.tmod a1 2) == 1))))))))
set_option maxHeartbeats 8000000 in
set_option maxRecDepth 100000 in
theorem num_away.calls (a0 : Bool) (a1 : Int) (a2 : Int) (a3 : Int) (a4 : Int) (r : Bool) (w : World) (h : num_away.f a0 a1 a2 a3 a4 = some r) :
    Calls Tryd.prog 113 #[.bool a0, .int .u64 a1, .int .u64 a2, .int .u64 a3, .int .i64 a4] w fun e w' => e = .returned (.bool r) ∧ Drawn0 w w' := by
  have H : (if a2 = 0 then (some false) else (if a4 = 0 then (some a0) else (if a4 = 1 then (some (!a0)) else (if a4 = 2 then (some false) else (if a2 > (IntKind.u64.wrap (a3 - a2)) then (some true) else (if a2 < (IntKind.u64.wrap (a3 - a2)) then (some false) else (if a4 = 3 then (some (!a0)) else (some ((Int.tmod a1 2) == 1))))))))) = some r := h
  clear h
  by_cases c6 : a2 = 0
  · rw [if_pos c6] at H
    have c6b0 : (a2 == 0) = true := beq_iff_eq.mpr c6
    have c6b1 : (a2 != 0) = false := bne_eq_false_iff_eq.mpr c6
    clear c6
    obtain rfl := Option.some.inj H
    go_enter Tryd.func113, Tryd.ntmps113
    go_wp2
    go_ret
    exact ⟨by first | rfl | (simp; done) | (simp [*]; done), by repeat (first | exact Drawn0.refl _ | apply Drawn0.step)⟩
  · rw [if_neg c6] at H
    have c6b0 : (a2 == 0) = false := beq_eq_false_iff_ne.mpr c6
    have c6b1 : (a2 != 0) = true := bne_iff_ne.mpr c6
    by_cases c7 : a4 = 0
    · rw [if_pos c7] at H
      have c7b0 : (a4 == 0) = true := beq_iff_eq.mpr c7
      have c7b1 : (a4 != 0) = false := bne_eq_false_iff_eq.mpr c7
      clear c7
      obtain rfl := Option.some.inj H
      go_enter Tryd.func113, Tryd.ntmps113
      go_wp2
      go_ret
      exact ⟨by first | rfl | (simp; done) | (simp [*]; done), by repeat (first | exact Drawn0.refl _ | apply Drawn0.step)⟩
    · rw [if_neg c7] at H
      have c7b0 : (a4 == 0) = false := beq_eq_false_iff_ne.mpr c7
      have c7b1 : (a4 != 0) = true := bne_iff_ne.mpr c7
      by_cases c8 : a4 = 1
      · rw [if_pos c8] at H
        have c8b0 : (a4 == 1) = true := beq_iff_eq.mpr c8
        have c8b1 : (a4 != 1) = false := bne_eq_false_iff_eq.mpr c8
        clear c8
        obtain rfl := Option.some.inj H
        go_enter Tryd.func113, Tryd.ntmps113
        go_wp2
        go_ret
        exact ⟨by first | rfl | (simp; done) | (simp [*]; done), by repeat (first | exact Drawn0.refl _ | apply Drawn0.step)⟩
      · rw [if_neg c8] at H
        have c8b0 : (a4 == 1) = false := beq_eq_false_iff_ne.mpr c8
        have c8b1 : (a4 != 1) = true := bne_iff_ne.mpr c8
        by_cases c9 : a4 = 2
        · rw [if_pos c9] at H
          have c9b0 : (a4 == 2) = true := beq_iff_eq.mpr c9
          have c9b1 : (a4 != 2) = false := bne_eq_false_iff_eq.mpr c9
          clear c9
          obtain rfl := Option.some.inj H
          go_enter Tryd.func113, Tryd.ntmps113
          go_wp2
          go_ret
          exact ⟨by first | rfl | (simp; done) | (simp [*]; done), by repeat (first | exact Drawn0.refl _ | apply Drawn0.step)⟩
        · rw [if_neg c9] at H
          have c9b0 : (a4 == 2) = false := beq_eq_false_iff_ne.mpr c9
          have c9b1 : (a4 != 2) = true := bne_iff_ne.mpr c9
          by_cases c10 : a2 > (IntKind.u64.wrap (a3 - a2))
          · rw [if_pos c10] at H
            have c10b0 : decide ((IntKind.u64.wrap (a3 - a2)) < a2) = true := decide_eq_true c10
            clear c10
            obtain rfl := Option.some.inj H
            go_enter Tryd.func113, Tryd.ntmps113
            go_wp2
            go_ret
            exact ⟨by first | rfl | (simp; done) | (simp [*]; done), by repeat (first | exact Drawn0.refl _ | apply Drawn0.step)⟩
          · rw [if_neg c10] at H
            have c10b0 : decide ((IntKind.u64.wrap (a3 - a2)) < a2) = false := decide_eq_false c10
            clear c10
            by_cases c11 : a2 < (IntKind.u64.wrap (a3 - a2))
            · rw [if_pos c11] at H
              have c11b0 : decide (a2 < (IntKind.u64.wrap (a3 - a2))) = true := decide_eq_true c11
              clear c11
              obtain rfl := Option.some.inj H
              go_enter Tryd.func113, Tryd.ntmps113
              go_wp2
              go_ret
              exact ⟨by first | rfl | (simp; done) | (simp [*]; done), by repeat (first | exact Drawn0.refl _ | apply Drawn0.step)⟩
            · rw [if_neg c11] at H
              have c11b0 : decide (a2 < (IntKind.u64.wrap (a3 - a2))) = false := decide_eq_false c11
              clear c11
              by_cases c12 : a4 = 3
              · rw [if_pos c12] at H
                have c12b0 : (a4 == 3) = true := beq_iff_eq.mpr c12
                have c12b1 : (a4 != 3) = false := bne_eq_false_iff_eq.mpr c12
                clear c12
                obtain rfl := Option.some.inj H
                go_enter Tryd.func113, Tryd.ntmps113
                go_wp2
                go_ret
                exact ⟨by first | rfl | (simp; done) | (simp [*]; done), by repeat (first | exact Drawn0.refl _ | apply Drawn0.step)⟩
              · rw [if_neg c12] at H
                have c12b0 : (a4 == 3) = false := beq_eq_false_iff_ne.mpr c12
                have c12b1 : (a4 != 3) = true := bne_iff_ne.mpr c12
                obtain rfl := Option.some.inj H
                go_enter Tryd.func113, Tryd.ntmps113
                go_wp2
                go_ret
                exact ⟨by first | rfl | (simp; done) | (simp [*]; done), by repeat (first | exact Drawn0.refl _ | apply Drawn0.step)⟩
def num_rounded.f (k : Nat) (a0 : Bool) (a1 : Int) (a2 : Int) (a3 : Int) (a4 : Int) : Option (Int × Bool) := if a1 ≥ a3 then (some (0, false)) else ((bits_Div64.f k a1 a2 a3).bind fun bt700 => (if bt700.1 > 4611686018427387904 then (some (0, false)) else ((num_away.f a0 bt700.1 bt700.2 a3 a4).bind fun t702 => (if t702 = true then (if a0 = true then (some (wrap64 (-(wrap64 (IntKind.u64.wrap (bt700.1 + 1)))), true)) else (some (wrap64 (IntKind.u64.wrap (bt700.1 + 1)), true))) else (if a0 = true then (some (wrap64 (-(wrap64 (bt700.1))), true)) else (some (wrap64 (bt700.1), true)))))))
theorem num_rounded.mono : ∀ a0 a1 a2 a3 a4 k, LeO (num_rounded.f k a0 a1 a2 a3 a4) (num_rounded.f (k + 1) a0 a1 a2 a3 a4) := by
  intro a0 a1 a2 a3 a4 k
  unfold num_rounded.f
  repeat' first
      | (with_reducible exact bits_Div64.mono _ _ _ _)
      | (with_reducible exact LeO.refl _)
      | (with_reducible exact LeO.none _)
      | (with_reducible refine LeO.ite ?_ ?_)
      | (with_reducible refine LeO.bind ?_ (fun _ => ?_))
      | exact bits_Div64.mono _ _ _ _
      | exact LeO.none _
      | refine LeO.ite ?_ ?_
      | refine LeO.bind ?_ (fun _ => ?_)
set_option maxHeartbeats 8000000 in
set_option maxRecDepth 100000 in
theorem num_rounded.calls (k : Nat) (a0 : Bool) (a1 : Int) (a2 : Int) (a3 : Int) (a4 : Int) (r1 : Int) (r2 : Bool) (w : World) (h : num_rounded.f k a0 a1 a2 a3 a4 = some (r1, r2)) :
    Calls Tryd.prog 86 #[.bool a0, .int .u64 a1, .int .u64 a2, .int .u64 a3, .int .i64 a4] w fun e w' => e = .returned (.tuple #[.int .i64 r1, .bool r2]) ∧ Drawn0 w w' := by
  have H : (if a1 ≥ a3 then (some (0, false)) else ((bits_Div64.f k a1 a2 a3).bind fun bt700 => (if bt700.1 > 4611686018427387904 then (some (0, false)) else ((num_away.f a0 bt700.1 bt700.2 a3 a4).bind fun t702 => (if t702 = true then (if a0 = true then (some (wrap64 (-(wrap64 (IntKind.u64.wrap (bt700.1 + 1)))), true)) else (some (wrap64 (IntKind.u64.wrap (bt700.1 + 1)), true))) else (if a0 = true then (some (wrap64 (-(wrap64 (bt700.1))), true)) else (some (wrap64 (bt700.1), true)))))))) = some (r1, r2) := h
  clear h
  by_cases c6 : a1 ≥ a3
  · rw [if_pos c6] at H
    have c6b0 : decide (a3 ≤ a1) = true := decide_eq_true c6
    clear c6
    simp only [Option.some.injEq, Prod.mk.injEq] at H
    obtain ⟨rfl, rfl⟩ := H
    go_enter Tryd.func86, Tryd.ntmps86
    go_wp2
    go_ret2
    exact ⟨by first | rfl | (simp; done) | (simp [*]; done), by repeat (first | exact Drawn0.refl _ | apply Drawn0.step)⟩
  · rw [if_neg c6] at H
    have c6b0 : decide (a3 ≤ a1) = false := decide_eq_false c6
    clear c6
    replace H := Option.bind_eq_some_iff.mp H
    obtain ⟨⟨t700, t701⟩, A70, H⟩ := H
    replace H : (if t700 > 4611686018427387904 then (some (0, false)) else ((num_away.f a0 t700 t701 a3 a4).bind fun t702 => (if t702 = true then (if a0 = true then (some (wrap64 (-(wrap64 (IntKind.u64.wrap (t700 + 1)))), true)) else (some (wrap64 (IntKind.u64.wrap (t700 + 1)), true))) else (if a0 = true then (some (wrap64 (-(wrap64 (t700))), true)) else (some (wrap64 (t700), true)))))) = some (r1, r2) := H
    have A7 := Aside0.mk A70
    clear A70
    by_cases c8 : t700 > 4611686018427387904
    · rw [if_pos c8] at H
      have c8b0 : decide (4611686018427387904 < t700) = true := decide_eq_true c8
      clear c8
      simp only [Option.some.injEq, Prod.mk.injEq] at H
      obtain ⟨rfl, rfl⟩ := H
      go_enter Tryd.func86, Tryd.ntmps86
      go_wp2_with (first | ((with_reducible refine gate_callee (f := 112) rfl ?_); refine goesL_ (some 21) rfl rfl Tryd.func112 (by kernel_rfl) rfl #[.int .u64 a1, .int .u64 a2, .int .u64 a3] rfl qe_ ?_; (with_reducible refine (bits_Div64.calls k a1 a2 a3 t700 t701 _ A7.out).mono ?_); rintro e w' ⟨rfl, ⟨nd, rfl⟩⟩; refine ⟨_, rfl, ?_⟩))
      go_ret2
      exact ⟨by first | rfl | (simp; done) | (simp [*]; done), by repeat (first | exact Drawn0.refl _ | apply Drawn0.step)⟩
    · rw [if_neg c8] at H
      have c8b0 : decide (4611686018427387904 < t700) = false := decide_eq_false c8
      clear c8
      replace H := Option.bind_eq_some_iff.mp H
      obtain ⟨t702, A90, H⟩ := H
      replace H : (if t702 = true then (if a0 = true then (some (wrap64 (-(wrap64 (IntKind.u64.wrap (t700 + 1)))), true)) else (some (wrap64 (IntKind.u64.wrap (t700 + 1)), true))) else (if a0 = true then (some (wrap64 (-(wrap64 (t700))), true)) else (some (wrap64 (t700), true)))) = some (r1, r2) := H
      have A9 := Aside0.mk A90
      clear A90
      by_cases c10 : t702 = true
      · subst c10
        have H1 : (if a0 = true then (some (wrap64 (-(wrap64 (IntKind.u64.wrap (t700 + 1)))), true)) else (some (wrap64 (IntKind.u64.wrap (t700 + 1)), true))) = some (r1, r2) := by rw [if_pos rfl] at H; exact H
        clear H
        have H := H1
        clear H1
        by_cases c11 : a0 = true
        · subst c11
          have H1 : (some (wrap64 (-(wrap64 (IntKind.u64.wrap (t700 + 1)))), true)) = some (r1, r2) := by rw [if_pos rfl] at H; exact H
          clear H
          have H := H1
          clear H1
          simp only [Option.some.injEq, Prod.mk.injEq] at H
          obtain ⟨rfl, rfl⟩ := H
          go_enter Tryd.func86, Tryd.ntmps86
          go_wp2_with (first | ((with_reducible refine gate_callee (f := 112) rfl ?_); refine goesL_ (some 21) rfl rfl Tryd.func112 (by kernel_rfl) rfl #[.int .u64 a1, .int .u64 a2, .int .u64 a3] rfl qe_ ?_; (with_reducible refine (bits_Div64.calls k a1 a2 a3 t700 t701 _ A7.out).mono ?_); rintro e w' ⟨rfl, ⟨nd, rfl⟩⟩; refine ⟨_, rfl, ?_⟩) | ((with_reducible refine gate_callee (f := 113) rfl ?_); refine goesL_ (some 31) rfl rfl Tryd.func113 (by kernel_rfl) rfl #[.bool true, .int .u64 t700, .int .u64 t701, .int .u64 a3, .int .i64 a4] rfl qe_ ?_; (with_reducible refine (num_away.calls true t700 t701 a3 a4 true _ A9.out).mono ?_); rintro e w' ⟨rfl, ⟨nd, rfl⟩⟩; refine ⟨_, rfl, ?_⟩))
          go_ret2
          exact ⟨by first | rfl | (simp; done) | (simp [*]; done), by repeat (first | exact Drawn0.refl _ | apply Drawn0.step)⟩
        · replace c11 := Bool.eq_false_iff.mpr c11
          subst c11
          have H1 : (some (wrap64 (IntKind.u64.wrap (t700 + 1)), true)) = some (r1, r2) := by rw [if_neg (show ¬ (false = true) by decide)] at H; exact H
          clear H
          have H := H1
          clear H1
          simp only [Option.some.injEq, Prod.mk.injEq] at H
          obtain ⟨rfl, rfl⟩ := H
          go_enter Tryd.func86, Tryd.ntmps86
          go_wp2_with (first | ((with_reducible refine gate_callee (f := 112) rfl ?_); refine goesL_ (some 21) rfl rfl Tryd.func112 (by kernel_rfl) rfl #[.int .u64 a1, .int .u64 a2, .int .u64 a3] rfl qe_ ?_; (with_reducible refine (bits_Div64.calls k a1 a2 a3 t700 t701 _ A7.out).mono ?_); rintro e w' ⟨rfl, ⟨nd, rfl⟩⟩; refine ⟨_, rfl, ?_⟩) | ((with_reducible refine gate_callee (f := 113) rfl ?_); refine goesL_ (some 31) rfl rfl Tryd.func113 (by kernel_rfl) rfl #[.bool false, .int .u64 t700, .int .u64 t701, .int .u64 a3, .int .i64 a4] rfl qe_ ?_; (with_reducible refine (num_away.calls false t700 t701 a3 a4 true _ A9.out).mono ?_); rintro e w' ⟨rfl, ⟨nd, rfl⟩⟩; refine ⟨_, rfl, ?_⟩))
          go_ret2
          exact ⟨by first | rfl | (simp; done) | (simp [*]; done), by repeat (first | exact Drawn0.refl _ | apply Drawn0.step)⟩
      · replace c10 := Bool.eq_false_iff.mpr c10
        subst c10
        have H1 : (if a0 = true then (some (wrap64 (-(wrap64 (t700))), true)) else (some (wrap64 (t700), true))) = some (r1, r2) := by rw [if_neg (show ¬ (false = true) by decide)] at H; exact H
        clear H
        have H := H1
        clear H1
        by_cases c12 : a0 = true
        · subst c12
          have H1 : (some (wrap64 (-(wrap64 (t700))), true)) = some (r1, r2) := by rw [if_pos rfl] at H; exact H
          clear H
          have H := H1
          clear H1
          simp only [Option.some.injEq, Prod.mk.injEq] at H
          obtain ⟨rfl, rfl⟩ := H
          go_enter Tryd.func86, Tryd.ntmps86
          go_wp2_with (first | ((with_reducible refine gate_callee (f := 112) rfl ?_); refine goesL_ (some 21) rfl rfl Tryd.func112 (by kernel_rfl) rfl #[.int .u64 a1, .int .u64 a2, .int .u64 a3] rfl qe_ ?_; (with_reducible refine (bits_Div64.calls k a1 a2 a3 t700 t701 _ A7.out).mono ?_); rintro e w' ⟨rfl, ⟨nd, rfl⟩⟩; refine ⟨_, rfl, ?_⟩) | ((with_reducible refine gate_callee (f := 113) rfl ?_); refine goesL_ (some 31) rfl rfl Tryd.func113 (by kernel_rfl) rfl #[.bool true, .int .u64 t700, .int .u64 t701, .int .u64 a3, .int .i64 a4] rfl qe_ ?_; (with_reducible refine (num_away.calls true t700 t701 a3 a4 false _ A9.out).mono ?_); rintro e w' ⟨rfl, ⟨nd, rfl⟩⟩; refine ⟨_, rfl, ?_⟩))
          go_ret2
          exact ⟨by first | rfl | (simp; done) | (simp [*]; done), by repeat (first | exact Drawn0.refl _ | apply Drawn0.step)⟩
        · replace c12 := Bool.eq_false_iff.mpr c12
          subst c12
          have H1 : (some (wrap64 (t700), true)) = some (r1, r2) := by rw [if_neg (show ¬ (false = true) by decide)] at H; exact H
          clear H
          have H := H1
          clear H1
          simp only [Option.some.injEq, Prod.mk.injEq] at H
          obtain ⟨rfl, rfl⟩ := H
          go_enter Tryd.func86, Tryd.ntmps86
          go_wp2_with (first | ((with_reducible refine gate_callee (f := 112) rfl ?_); refine goesL_ (some 21) rfl rfl Tryd.func112 (by kernel_rfl) rfl #[.int .u64 a1, .int .u64 a2, .int .u64 a3] rfl qe_ ?_; (with_reducible refine (bits_Div64.calls k a1 a2 a3 t700 t701 _ A7.out).mono ?_); rintro e w' ⟨rfl, ⟨nd, rfl⟩⟩; refine ⟨_, rfl, ?_⟩) | ((with_reducible refine gate_callee (f := 113) rfl ?_); refine goesL_ (some 31) rfl rfl Tryd.func113 (by kernel_rfl) rfl #[.bool false, .int .u64 t700, .int .u64 t701, .int .u64 a3, .int .i64 a4] rfl qe_ ?_; (with_reducible refine (num_away.calls false t700 t701 a3 a4 false _ A9.out).mono ?_); rintro e w' ⟨rfl, ⟨nd, rfl⟩⟩; refine ⟨_, rfl, ?_⟩))
          go_ret2
          exact ⟨by first | rfl | (simp; done) | (simp [*]; done), by repeat (first | exact Drawn0.refl _ | apply Drawn0.step)⟩
end Go.Proofs.YtdjnneflpkllmaaDoor.Q

namespace Go.Proofs.YtdjnneflpkllmaaDoor.Q
open Go.RowKit Go.Proofs.YtdjnneflpkllmaaDoorW.PrintWords Go.Proofs.YtdjnneflpkllmaaDoorW.PrintLast Go.Proofs.YtdjnneflpkllmaaDoorW.PrintMore
attribute [local go_sem] max2_int min2_int max_two min_two max_three min_three max_four min_four   -- for this text's walks alone
set_option linter.unusedVariables false
set_option linter.unusedSimpArgs false
def num_Round.j0 : Nat → Int → Bool → Int → Int → Option (Int × Int)
  | 0, _, _, _, _ => none
  | k + 1, x1, x15, x704000, x704001 => if x15 = true then (some (0, 2)) else ((num_size.f x704000).bind fun t706 => ((num_rounded.f k (decide (x704000 < 0)) 0 t706 (IntKind.u64.wrap (x704001)) x1).bind fun bt707 => (some (bt707.1, 0))))
def num_Round.f (k : Nat) (a0_0 : Int) (a0_1 : Int) (a1 : Int) : Option (Int × Int) := (num_Valid.f k a0_0 a0_1).bind fun t704 => (if t704 = true then ((num_mode.f a1).bind fun t705 => (num_Round.j0 k a1 (!t705) a0_0 a0_1)) else (num_Round.j0 k a1 true a0_0 a0_1))
theorem num_Round.mono_l : ∀ k, (∀ y0 y1 y2 y3, LeO (num_Round.j0 k y0 y1 y2 y3) (num_Round.j0 (k + 1) y0 y1 y2 y3))
  | 0 => fun _ _ _ _ r h => by simp [num_Round.j0] at h
  | k + 1 => by
    have ih0 := num_Round.mono_l k
    · intro y0 y1 y2 y3
      unfold num_Round.j0
      repeat' first
      | (with_reducible exact ih0 _ _ _ _)
      | (with_reducible exact num_Valid.mono _ _ _)
      | (with_reducible exact num_rounded.mono _ _ _ _ _ _)
      | (with_reducible exact LeO.refl _)
      | (with_reducible exact LeO.none _)
      | (with_reducible refine LeO.ite ?_ ?_)
      | (with_reducible refine LeO.bind ?_ (fun _ => ?_))
      | exact ih0 _ _ _ _
      | exact num_Valid.mono _ _ _
      | exact num_rounded.mono _ _ _ _ _ _
      | exact LeO.none _
      | refine LeO.ite ?_ ?_
      | refine LeO.bind ?_ (fun _ => ?_)
theorem num_Round.mono : ∀ a0 a1 a2 k, LeO (num_Round.f k a0 a1 a2) (num_Round.f (k + 1) a0 a1 a2) := by
  intro a0 a1 a2 k
  have ih0 := num_Round.mono_l k
  unfold num_Round.f
  repeat' first
      | (with_reducible exact ih0 _ _ _ _)
      | (with_reducible exact num_Valid.mono _ _ _)
      | (with_reducible exact num_rounded.mono _ _ _ _ _ _)
      | (with_reducible exact LeO.refl _)
      | (with_reducible exact LeO.none _)
      | (with_reducible refine LeO.ite ?_ ?_)
      | (with_reducible refine LeO.bind ?_ (fun _ => ?_))
      | exact ih0 _ _ _ _
      | exact num_Valid.mono _ _ _
      | exact num_rounded.mono _ _ _ _ _ _
      | exact LeO.none _
      | refine LeO.ite ?_ ?_
      | refine LeO.bind ?_ (fun _ => ?_)
end Go.Proofs.YtdjnneflpkllmaaDoor.Q

namespace Go.Proofs.YtdjnneflpkllmaaDoor.Q
open Go.RowKit Go.Proofs.YtdjnneflpkllmaaDoorW.PrintWords Go.Proofs.YtdjnneflpkllmaaDoorW.PrintLast Go.Proofs.YtdjnneflpkllmaaDoorW.PrintMore
attribute [local go_sem] max2_int min2_int max_two min_two max_three min_three max_four min_four   -- for this text's walks alone
set_option linter.unusedVariables false
set_option linter.unusedSimpArgs false
def num_Neg.f (k : Nat) (a0_0 : Int) (a0_1 : Int) : Option (Int × Int × Int) := (num_Valid.f k a0_0 a0_1).bind fun t711 => (if t711 = true then (some (wrap64 (-a0_0), a0_1, 0)) else (some (0, 0, 2)))
theorem num_Neg.mono : ∀ a0 a1 k, LeO (num_Neg.f k a0 a1) (num_Neg.f (k + 1) a0 a1) := by
  intro a0 a1 k
  unfold num_Neg.f
  repeat' first
      | (with_reducible exact num_Valid.mono _ _ _)
      | (with_reducible exact LeO.refl _)
      | (with_reducible exact LeO.none _)
      | (with_reducible refine LeO.ite ?_ ?_)
      | (with_reducible refine LeO.bind ?_ (fun _ => ?_))
      | exact num_Valid.mono _ _ _
      | exact LeO.none _
      | refine LeO.ite ?_ ?_
      | refine LeO.bind ?_ (fun _ => ?_)
end Go.Proofs.YtdjnneflpkllmaaDoor.Q

namespace Go.Proofs.Num
open Go.RowKit Go.Proofs.YtdjnneflpkllmaaDoorW.PrintWords Go.Proofs.YtdjnneflpkllmaaDoor.Q
set_option linter.unusedVariables false
set_option linter.unusedSimpArgs false
theorem w64 {x : Int} (h0 : -9223372036854775808 ≤ x) (h1 : x ≤ 9223372036854775807) : wrap64 x = x := by unfold wrap64; omega
theorem wu {x : Int} (h0 : 0 ≤ x) (h1 : x ≤ 18446744073709551615) : IntKind.u64.wrap x = x := by
  simp [IntKind.wrap, IntKind.bits, IntKind.signed]
  omega
theorem size_ok {a : Int} (h0 : -9223372036854775808 ≤ a) (h1 : a ≤ 9223372036854775807) : num_size.f a = some (a.natAbs : Int) := by
  unfold num_size.f
  by_cases h : a < 0
  · rw [if_pos h]
    congr 1
    simp [IntKind.wrap, IntKind.bits, IntKind.signed]
    omega
  · rw [if_neg h, wu (by omega) (by omega)]
    congr 1
    omega
/-- A valid fraction. -/
def valid (n d : Int) : Prop := 1 ≤ d ∧ d ≤ 1048576 ∧ -1099511627776 ≤ n ∧ n ≤ 1099511627776 ∧ Nat.gcd n.natAbs d.natAbs = 1
instance (n d : Int) : Decidable (valid n d) := by unfold valid; infer_instance
end Go.Proofs.Num

namespace Go.Proofs.Num
open Go.RowKit Go.Proofs.YtdjnneflpkllmaaDoorW.PrintWords Go.Proofs.YtdjnneflpkllmaaDoor.Q
set_option linter.unusedVariables false
set_option linter.unusedSimpArgs false
/-- Div64 of a number of 64 bits. -/
theorem div64_low (k : Nat) {a b : Int} (ha : 0 ≤ a) (ha' : a ≤ 18446744073709551615) (hb : 0 < b) : bits_Div64.f k 0 a b = some (a / b, a % b) := by
  unfold bits_Div64.f bits_Div64_g.f
  rw [if_neg (by omega), if_neg (by omega), if_pos rfl, if_neg (by omega), Int.tdiv_eq_ediv_of_nonneg ha, Int.tmod_eq_emod_of_nonneg ha]
  have h1 : 0 ≤ a / b := Int.ediv_nonneg ha (by omega)
  have h2 : a / b ≤ a := Int.ediv_le_self _ ha
  rw [wu h1 (by omega)]
/-- How far a quotient of sizes is rounded. -/
def rnd (neg : Bool) (q r d m : Int) : Int :=
  let t := if r = 0 then q else if m = 0 then (if neg then q + 1 else q) else if m = 1 then (if neg then q else q + 1) else if m = 2 then q else if d < 2 * r then q + 1 else if 2 * r < d then q else if m = 3 then (if neg then q else q + 1) else if q % 2 = 1 then q + 1 else q
  if neg then -t else t
theorem away_ok (neg : Bool) {q r d m : Int} (hq : 0 ≤ q) (hr : 0 ≤ r) (hrd : r < d) (hd : d ≤ 9223372036854775807) :
    num_away.f neg q r d m = some (if r = 0 then false else if m = 0 then neg else if m = 1 then !neg else if m = 2 then false else if d < 2 * r then true else if 2 * r < d then false else if m = 3 then !neg else decide (q % 2 = 1)) := by
  unfold num_away.f
  rw [wu (by omega) (by omega), Int.tmod_eq_emod_of_nonneg hq]
  by_cases h0 : r = 0
  · simp [h0]
  · by_cases h1 : m = 0
    · simp [h0, h1]
    · by_cases h2 : m = 1
      · simp [h0, h2]
      · by_cases h3 : m = 2
        · simp [h0, h3]
        · by_cases h4 : d < 2 * r
          · simp [h0, h1, h2, h3, h4, show d - r < r by omega]
          · by_cases h5 : 2 * r < d
            · simp [h0, h1, h2, h3, h4, h5, show ¬ d - r < r by omega, show r < d - r by omega]
            · by_cases h6 : m = 3
              · simp [h0, h6, h4, h5, show ¬ d - r < r by omega, show ¬ r < d - r by omega]
              · simp [h0, h1, h2, h3, h4, h5, h6, show ¬ d - r < r by omega, show ¬ r < d - r by omega]
                rw [Bool.eq_iff_iff]; simp
theorem rounded_low (k : Nat) (neg : Bool) {a d m : Int} (ha : 0 ≤ a) (ha' : a ≤ 4611686018427387904) (hd : 0 < d) (hd' : d ≤ 9223372036854775807) :
    num_rounded.f k neg 0 a d m = some (rnd neg (a / d) (a % d) d m, true) := by
  unfold num_rounded.f
  have h1 : 0 ≤ a / d := Int.ediv_nonneg ha (by omega)
  have h2 : a / d ≤ a := Int.ediv_le_self _ ha
  have h3 : 0 ≤ a % d := Int.emod_nonneg _ (by omega)
  have h4 : a % d < d := Int.emod_lt_of_pos _ hd
  rw [if_neg (by omega), div64_low k ha (by omega) hd]
  simp only [Option.bind_some]
  rw [if_neg (by omega), away_ok neg h1 h3 h4 hd']
  simp only [Option.bind_some]
  generalize a / d = q at *
  generalize a % d = r at *
  rw [wu (by omega) (by omega), w64 (x := q + 1) (by omega) (by omega), w64 (x := q) (by omega) (by omega), w64 (x := -(q + 1)) (by omega) (by omega), w64 (x := -q) (by omega) (by omega)]
  unfold rnd
  cases neg <;> simp only [Bool.false_eq_true, if_false, if_true, Bool.not_true, Bool.not_false, decide_eq_true_eq] <;> (repeat' split) <;> simp_all
theorem mode_ok {m : Int} : num_mode.f m = some (decide (0 ≤ m ∧ m ≤ 4)) := by
  unfold num_mode.f
  by_cases h : m ≥ 0
  · rw [if_pos h]; congr 1; rw [Bool.eq_iff_iff]; simp; omega
  · rw [if_neg h]; congr 1; symm; rw [decide_eq_false_iff_not]; omega
end Go.Proofs.Num

namespace Go.Proofs.YtdjnneflpkllmaaDoor.Q
open Go.RowKit Go.Proofs.YtdjnneflpkllmaaDoorW.PrintWords Go.Proofs.YtdjnneflpkllmaaDoorW.PrintLast Go.Proofs.YtdjnneflpkllmaaDoorW.PrintMore
attribute [local go_sem] max2_int min2_int max_two min_two max_three min_three max_four min_four   -- for this text's walks alone
set_option linter.unusedVariables false
set_option linter.unusedSimpArgs false
mutual
def merinoref01_Valid.j0 : Nat → Bool → Int → Int → Option (Bool)
  | 0, _, _, _ => none
  | k + 1, x22, x467000, x467001 => if x22 = true then (some false) else (if x467000 < 0 then (merinoref01_Valid.j1 k (wrap64 (-x467000)) x467001) else (merinoref01_Valid.j1 k x467000 x467001))
def merinoref01_Valid.j1 : Nat → Int → Int → Option (Bool)
  | 0, _, _ => none
  | k + 1, x3, x4 => merinoref01_Valid.l0 k x3 x4
def merinoref01_Valid.l0 : Nat → Int → Int → Option (Bool)
  | 0, _, _ => none
  | k + 1, x3, x4 => if x4 > 0 then (if x4 = 0 then (none) else (merinoref01_Valid.l0 k x4 (Int.tmod x3 x4))) else (some (x3 == 1))
end
def merinoref01_Valid.f (k : Nat) (a0_0 : Int) (a0_1 : Int) : Option (Bool) := if a0_1 < 1 then (merinoref01_Valid.j0 k true a0_0 a0_1) else (if a0_1 > 1048576 then (merinoref01_Valid.j0 k true a0_0 a0_1) else (if a0_0 < (-1099511627776) then (merinoref01_Valid.j0 k true a0_0 a0_1) else (merinoref01_Valid.j0 k (decide (a0_0 > 1099511627776)) a0_0 a0_1)))
theorem merinoref01_Valid.mono_l : ∀ k, (∀ y0 y1 y2, LeO (merinoref01_Valid.j0 k y0 y1 y2) (merinoref01_Valid.j0 (k + 1) y0 y1 y2)) ∧ (∀ y0 y1, LeO (merinoref01_Valid.j1 k y0 y1) (merinoref01_Valid.j1 (k + 1) y0 y1)) ∧ (∀ y0 y1, LeO (merinoref01_Valid.l0 k y0 y1) (merinoref01_Valid.l0 (k + 1) y0 y1))
  | 0 => ⟨fun _ _ _ r h => by simp [merinoref01_Valid.j0] at h, fun _ _ r h => by simp [merinoref01_Valid.j1] at h, fun _ _ r h => by simp [merinoref01_Valid.l0] at h⟩
  | k + 1 => by
    obtain ⟨ih0, ih1, ih2⟩ := merinoref01_Valid.mono_l k
    refine ⟨?_, ?_, ?_⟩
    · intro y0 y1 y2
      unfold merinoref01_Valid.j0
      repeat' first
      | (with_reducible exact ih0 _ _ _)
      | (with_reducible exact ih1 _ _)
      | (with_reducible exact ih2 _ _)
      | (with_reducible exact LeO.refl _)
      | (with_reducible exact LeO.none _)
      | (with_reducible refine LeO.ite ?_ ?_)
      | (with_reducible refine LeO.bind ?_ (fun _ => ?_))
      | exact ih0 _ _ _
      | exact ih1 _ _
      | exact ih2 _ _
      | exact LeO.none _
      | refine LeO.ite ?_ ?_
      | refine LeO.bind ?_ (fun _ => ?_)
    · intro y0 y1
      unfold merinoref01_Valid.j1
      repeat' first
      | (with_reducible exact ih0 _ _ _)
      | (with_reducible exact ih1 _ _)
      | (with_reducible exact ih2 _ _)
      | (with_reducible exact LeO.refl _)
      | (with_reducible exact LeO.none _)
      | (with_reducible refine LeO.ite ?_ ?_)
      | (with_reducible refine LeO.bind ?_ (fun _ => ?_))
      | exact ih0 _ _ _
      | exact ih1 _ _
      | exact ih2 _ _
      | exact LeO.none _
      | refine LeO.ite ?_ ?_
      | refine LeO.bind ?_ (fun _ => ?_)
    · intro y0 y1
      unfold merinoref01_Valid.l0
      repeat' first
      | (with_reducible exact ih0 _ _ _)
      | (with_reducible exact ih1 _ _)
      | (with_reducible exact ih2 _ _)
      | (with_reducible exact LeO.refl _)
      | (with_reducible exact LeO.none _)
      | (with_reducible refine LeO.ite ?_ ?_)
      | (with_reducible refine LeO.bind ?_ (fun _ => ?_))
      | exact ih0 _ _ _
      | exact ih1 _ _
      | exact ih2 _ _
      | exact LeO.none _
      | refine LeO.ite ?_ ?_
      | refine LeO.bind ?_ (fun _ => ?_)
theorem merinoref01_Valid.mono : ∀ a0 a1 k, LeO (merinoref01_Valid.f k a0 a1) (merinoref01_Valid.f (k + 1) a0 a1) := by
  intro a0 a1 k
  obtain ⟨ih0, ih1, ih2⟩ := merinoref01_Valid.mono_l k
  unfold merinoref01_Valid.f
  repeat' first
      | (with_reducible exact ih0 _ _ _)
      | (with_reducible exact ih1 _ _)
      | (with_reducible exact ih2 _ _)
      | (with_reducible exact LeO.refl _)
      | (with_reducible exact LeO.none _)
      | (with_reducible refine LeO.ite ?_ ?_)
      | (with_reducible refine LeO.bind ?_ (fun _ => ?_))
      | exact ih0 _ _ _
      | exact ih1 _ _
      | exact ih2 _ _
      | exact LeO.none _
      | refine LeO.ite ?_ ?_
      | refine LeO.bind ?_ (fun _ => ?_)
end Go.Proofs.YtdjnneflpkllmaaDoor.Q

namespace Go.Proofs.Num
open Go.RowKit Go.Proofs.YtdjnneflpkllmaaDoorW.PrintWords Go.Proofs.YtdjnneflpkllmaaDoorW.PrintMore Go.Proofs.YtdjnneflpkllmaaDoor.Q
set_option linter.unusedVariables false
set_option linter.unusedSimpArgs false
end Go.Proofs.Num

namespace Go.Proofs.YtdjnneflpkllmaaDoor.Q
open Go.RowKit Go.Proofs.YtdjnneflpkllmaaDoorW.PrintWords Go.Proofs.YtdjnneflpkllmaaDoorW.PrintLast Go.Proofs.YtdjnneflpkllmaaDoorW.PrintMore
attribute [local go_sem] max2_int min2_int max_two min_two max_three min_three max_four min_four   -- for this text's walks alone
set_option linter.unusedVariables false
set_option linter.unusedSimpArgs false
def merinoref01_Rounded.j0 : Nat → Bool → Bool → List Int → Option (Bool × List Int)
  | 0, _, _, _ => none
  | k + 1, x10, x903000, x903001 => if x10 = true then ((merinoref01_Of.f k 1).bind fun bt911 => ((merinoref01_Plus.f k x903000 x903001 bt911.1 bt911.2).bind fun bt915 => (some (bt915.1, bt915.2)))) else (some (x903000, x903001))
def merinoref01_Rounded.core (k : Nat) (a0_0 : Bool) (l0_1 : List Int) (a1_0 : Bool) (l1_1 : List Int) (a2 : Int) : Option (Bool × List Int) := (merinoref01_Over.f k a0_0 l0_1 a1_0 l1_1).bind fun bt894 => ((merinoref01_Zero.f bt894.2.2.1 bt894.2.2.2).bind fun t904 => (if t904 = true then (some (bt894.1, bt894.2.1)) else ((merinoref01_Plus.f k bt894.2.2.1 bt894.2.2.2 bt894.2.2.1 bt894.2.2.2).bind fun bt905 => ((merinoref01_Compare.f k bt905.1 bt905.2 a1_0 l1_1).bind fun t909 => (if a2 = 1 then (merinoref01_Rounded.j0 k true bt894.1 bt894.2.1) else (if a2 = 2 then (merinoref01_Rounded.j0 k a0_0 bt894.1 bt894.2.1) else (if a2 = 3 then (merinoref01_Rounded.j0 k (decide (t909 ≥ 0)) bt894.1 bt894.2.1) else (if a2 = 4 then (if t909 > 0 then (merinoref01_Rounded.j0 k true bt894.1 bt894.2.1) else (if t909 = 0 then (if (bt894.2.1.length : Int) > 0 then (if 0 < (bt894.2.1.length : Int) then (merinoref01_Rounded.j0 k ((Int.tmod (rd bt894.2.1 0) 2) == 1) bt894.1 bt894.2.1) else (none)) else (merinoref01_Rounded.j0 k false bt894.1 bt894.2.1)) else (merinoref01_Rounded.j0 k false bt894.1 bt894.2.1))) else (merinoref01_Rounded.j0 k false bt894.1 bt894.2.1)))))))))
theorem merinoref01_Rounded.mono_l : ∀ k, (∀ y0 y1 y2, LeO (merinoref01_Rounded.j0 k y0 y1 y2) (merinoref01_Rounded.j0 (k + 1) y0 y1 y2))
  | 0 => fun _ _ _ r h => by simp [merinoref01_Rounded.j0] at h
  | k + 1 => by
    have ih0 := merinoref01_Rounded.mono_l k
    · intro y0 y1 y2
      unfold merinoref01_Rounded.j0
      repeat' first
      | (with_reducible exact ih0 _ _ _)
      | (with_reducible exact merinoref01_Compare.mono _ _ _ _ _)
      | (with_reducible exact merinoref01_Of.mono _ _)
      | (with_reducible exact merinoref01_Over.mono _ _ _ _ _)
      | (with_reducible exact merinoref01_Plus.mono _ _ _ _ _)
      | (with_reducible exact LeO.refl _)
      | (with_reducible exact LeO.none _)
      | (with_reducible refine LeO.ite ?_ ?_)
      | (with_reducible refine LeO.bind ?_ (fun _ => ?_))
      | exact ih0 _ _ _
      | exact merinoref01_Compare.mono _ _ _ _ _
      | exact merinoref01_Of.mono _ _
      | exact merinoref01_Over.mono _ _ _ _ _
      | exact merinoref01_Plus.mono _ _ _ _ _
      | exact LeO.none _
      | refine LeO.ite ?_ ?_
      | refine LeO.bind ?_ (fun _ => ?_)
theorem merinoref01_Rounded.core_mono : ∀ a0 a1 a2 a3 a4 k, LeO (merinoref01_Rounded.core k a0 a1 a2 a3 a4) (merinoref01_Rounded.core (k + 1) a0 a1 a2 a3 a4) := by
  intro a0 a1 a2 a3 a4 k
  have ih0 := merinoref01_Rounded.mono_l k
  unfold merinoref01_Rounded.core
  repeat' first
      | (with_reducible exact ih0 _ _ _)
      | (with_reducible exact merinoref01_Compare.mono _ _ _ _ _)
      | (with_reducible exact merinoref01_Of.mono _ _)
      | (with_reducible exact merinoref01_Over.mono _ _ _ _ _)
      | (with_reducible exact merinoref01_Plus.mono _ _ _ _ _)
      | (with_reducible exact LeO.refl _)
      | (with_reducible exact LeO.none _)
      | (with_reducible refine LeO.ite ?_ ?_)
      | (with_reducible refine LeO.bind ?_ (fun _ => ?_))
      | exact ih0 _ _ _
      | exact merinoref01_Compare.mono _ _ _ _ _
      | exact merinoref01_Of.mono _ _
      | exact merinoref01_Over.mono _ _ _ _ _
      | exact merinoref01_Plus.mono _ _ _ _ _
      | exact LeO.none _
      | refine LeO.ite ?_ ?_
      | refine LeO.bind ?_ (fun _ => ?_)
def merinoref01_Mode.f (a0 : Int) : Option (Bool) := if a0 ≥ 0 then (some (decide (a0 ≤ 4))) else (some false)
set_option maxHeartbeats 8000000 in
set_option maxRecDepth 100000 in
theorem merinoref01_Mode.calls (a0 : Int) (r : Bool) (w : World) (h : merinoref01_Mode.f a0 = some r) :
    Calls Tryd.prog 101 #[.int .i64 a0] w fun e w' => e = .returned (.bool r) ∧ Drawn0 w w' := by
  have H : (if a0 ≥ 0 then (some (decide (a0 ≤ 4))) else (some false)) = some r := h
  clear h
  by_cases c2 : a0 ≥ 0
  · rw [if_pos c2] at H
    have c2b0 : decide (0 ≤ a0) = true := decide_eq_true c2
    clear c2
    obtain rfl := Option.some.inj H
    go_enter Tryd.func101, Tryd.ntmps101
    go_wp2
    go_ret
    exact ⟨by first | rfl | (simp; done) | (simp [*]; done), by repeat (first | exact Drawn0.refl _ | apply Drawn0.step)⟩
  · rw [if_neg c2] at H
    have c2b0 : decide (0 ≤ a0) = false := decide_eq_false c2
    clear c2
    obtain rfl := Option.some.inj H
    go_enter Tryd.func101, Tryd.ntmps101
    go_wp2
    go_ret
    exact ⟨by first | rfl | (simp; done) | (simp [*]; done), by repeat (first | exact Drawn0.refl _ | apply Drawn0.step)⟩
end Go.Proofs.YtdjnneflpkllmaaDoor.Q

namespace Go.Proofs.YtdjnneflpkllmaaDoor.Q
open Go.RowKit Go.Proofs.YtdjnneflpkllmaaDoorW.PrintWords Go.Proofs.YtdjnneflpkllmaaDoorW.PrintLast Go.Proofs.YtdjnneflpkllmaaDoorW.PrintMore
attribute [local go_sem] max2_int min2_int max_two min_two max_three min_three max_four min_four   -- for this text's walks alone
set_option linter.unusedVariables false
set_option linter.unusedSimpArgs false
set_option maxHeartbeats 8000000 in
set_option maxRecDepth 100000 in
theorem merinoref01_Rounded.both (k : Nat) (a0_0 : Bool) (A0_1 : Option Addr) (c0_1 : Nat) (l0_1 : List Int) (a1_0 : Bool) (A1_1 : Option Addr) (c1_1 : Nat) (l1_1 : List Int) (a2 : Int) (n1 : Bool) (nl dl : List Int) (r1 : Bool) (r2 : List Int) (w : World) (hr0_1 : Kd.C (Kd.int .i64) w A0_1 l0_1.length l0_1) (hc0_1 : l0_1.length ≤ c0_1) (hr1_1 : Kd.C (Kd.int .i64) w A1_1 l1_1.length l1_1) (hc1_1 : l1_1.length ≤ c1_1)
    (hND : (a1_0 = false ∧ n1 = a0_0 ∧ nl = l0_1 ∧ dl = l1_1) ∨ (a1_0 = true ∧ merinoref01_Neg.f k a0_0 l0_1 = some (n1, nl) ∧ merinoref01_Neg.f k true l1_1 = some (false, dl))) (h : merinoref01_Rounded.core k n1 nl false dl a2 = some (r1, r2)) :
    Calls Tryd.prog 99 #[.agg #[.bool a0_0, .slice A0_1 l0_1.length c0_1], .agg #[.bool a1_0, .slice A1_1 l1_1.length c1_1], .int .i64 a2] w fun e w' => ∃ v1_ : Value, e = .returned (.agg #[.bool r1, v1_]) ∧ Kd.R (Kd.int .i64) 3 w' w.heap.size (fun _ => True) v1_ r2 ∧ Below w.heap.size w w' := by
  have hu31 := Tryd.underlying31
  have HR0_1 := Aside0.mk hr0_1
  have HC0_1 := Aside0.mk hc0_1
  clear hr0_1 hc0_1
  have HR1_1 := Aside0.mk hr1_1
  have HC1_1 := Aside0.mk hc1_1
  clear hr1_1 hc1_1
  have HB := Aside0.mk (Below.refl w.heap.size w)
  have HND := Aside0.mk hND
  have HH := Aside0.mk h
  clear hND h
  go_enter Tryd.func99, Tryd.ntmps99
  go_upto_if 12 with (first | ((with_reducible refine gate_dst (N := 3) rfl ?_); (try (refine gate_guard (by rfl) ?_; dsimp only)); refine box_event ?hg (N := 3) ?hd (cs := #[.bool a0_0, .slice A0_1 l0_1.length c0_1]) (t := 31) ?hr ?_; (case hd => rfl); (case hg => rfl); (case hr => first | (go_simp; done) | (go_simp; rfl)); intro gb891 hg w7 hbox hb; have n0_ := Aside0.mk (below_step (q0_ HB.out) hb); have n1_ := Aside0.mk (hbox); have n2_ := Aside0.mk ((by rw [hg]; exact (below_size (q0_ HB.out)) : w.heap.size ≤ gb891)); have n3_ := Aside0.mk ((by rw [hg]; exact (below_size (q0_ HB.out)) : w.heap.size ≤ gb891)); clear HB; have HB := n0_; have BK891 := n1_; have GW891 := n2_; have GE891 := n3_; clear n0_ n1_ n2_ n3_; clear hb hbox hg) | ((with_reducible refine gate_dst (N := 4) rfl ?_); (try (refine gate_guard (by rfl) ?_; dsimp only)); refine box_event ?hg (N := 4) ?hd (cs := #[.bool a1_0, .slice A1_1 l1_1.length c1_1]) (t := 31) ?hr ?_; (case hd => rfl); (case hg => rfl); (case hr => first | (go_simp; done) | (go_simp; rfl)); intro gb892 hg w8 hbox hb; have n0_ := Aside0.mk (blk_below (g := gb891) (o := .cells #[.bool a0_0, .slice A0_1 l0_1.length c0_1] 31 (0, 0)) (qb_ BK891.out) hb); have n1_ := Aside0.mk (below_step (q1_ HB.out GE891.out) hb); have n2_ := Aside0.mk (hbox); have n3_ := Aside0.mk ((by rw [hg]; exact (below_size (q1_ HB.out GE891.out)) : w.heap.size ≤ gb892)); have n4_ := Aside0.mk ((by rw [hg]; exact (below_size (q1_ HB.out GE891.out)) : w.heap.size ≤ gb892)); have n5_ := Aside0.mk ((by rw [hg]; exact Nat.ne_of_lt (blk_lt (g := gb891) (o := .cells #[.bool a0_0, .slice A0_1 l0_1.length c0_1] 31 (0, 0)) (qb_ BK891.out)) : gb891 ≠ gb892)); have n6_ := Aside0.mk ((by rw [hg]; exact Nat.ne_of_gt (blk_lt (g := gb891) (o := .cells #[.bool a0_0, .slice A0_1 l0_1.length c0_1] 31 (0, 0)) (qb_ BK891.out)) : gb892 ≠ gb891)); clear BK891; clear HB; have BK891 := n0_; have HB := n1_; have BK892 := n2_; have GW892 := n3_; have GE892 := n4_; have NB891_892 := n5_; have NB892_891 := n6_; clear n0_ n1_ n2_ n3_ n4_ n5_ n6_; clear hb hbox hg) | ((with_reducible refine gate_dst (N := 6) rfl ?_); (try (refine gate_guard (by rfl) ?_; dsimp only)); refine box_event ?hg (N := 6) ?hd (cs := #[.bool false, .slice none 0 0]) (t := 31) ?hr ?_; (case hd => rfl); (case hg => rfl); (case hr => first | (go_simp; done) | (go_simp; rfl)); intro gb893 hg w9 hbox hb; have n0_ := Aside0.mk (blk_below (g := gb891) (o := .cells #[.bool a0_0, .slice A0_1 l0_1.length c0_1] 31 (0, 0)) (qb_ BK891.out) hb); have n1_ := Aside0.mk (blk_below (g := gb892) (o := .cells #[.bool a1_0, .slice A1_1 l1_1.length c1_1] 31 (0, 0)) (qb_ BK892.out) hb); have n2_ := Aside0.mk (below_step (q2_ HB.out GE891.out GE892.out) hb); have n3_ := Aside0.mk (hbox); have n4_ := Aside0.mk ((by rw [hg]; exact (below_size (q2_ HB.out GE891.out GE892.out)) : w.heap.size ≤ gb893)); have n5_ := Aside0.mk ((by rw [hg]; exact (below_size (q2_ HB.out GE891.out GE892.out)) : w.heap.size ≤ gb893)); have n6_ := Aside0.mk ((by rw [hg]; exact Nat.ne_of_lt (blk_lt (g := gb891) (o := .cells #[.bool a0_0, .slice A0_1 l0_1.length c0_1] 31 (0, 0)) (qb_ BK891.out)) : gb891 ≠ gb893)); have n7_ := Aside0.mk ((by rw [hg]; exact Nat.ne_of_gt (blk_lt (g := gb891) (o := .cells #[.bool a0_0, .slice A0_1 l0_1.length c0_1] 31 (0, 0)) (qb_ BK891.out)) : gb893 ≠ gb891)); have n8_ := Aside0.mk ((by rw [hg]; exact Nat.ne_of_lt (blk_lt (g := gb892) (o := .cells #[.bool a1_0, .slice A1_1 l1_1.length c1_1] 31 (0, 0)) (qb_ BK892.out)) : gb892 ≠ gb893)); have n9_ := Aside0.mk ((by rw [hg]; exact Nat.ne_of_gt (blk_lt (g := gb892) (o := .cells #[.bool a1_0, .slice A1_1 l1_1.length c1_1] 31 (0, 0)) (qb_ BK892.out)) : gb893 ≠ gb892)); clear BK891; clear BK892; clear HB; have BK891 := n0_; have BK892 := n1_; have HB := n2_; have BK893 := n3_; have GW893 := n4_; have GE893 := n5_; have NB891_893 := n6_; have NB893_891 := n7_; have NB892_893 := n8_; have NB893_892 := n9_; clear n0_ n1_ n2_ n3_ n4_ n5_ n6_ n7_ n8_ n9_; clear hb hbox hg; have hnb10 := NB892_891.out; have hnc10 := NB891_892.out; have hnb11 := NB892_893.out; have hnc11 := NB893_892.out; have hcz12_0 : w9.cell? ⟨gb892, 0, none⟩ = some (.bool a1_0) := (blk_cell BK892.out 0).trans rfl; have hcz12_1 : w9.cell? ⟨gb892, 1, none⟩ = some (.slice A1_1 l1_1.length c1_1) := (blk_cell BK892.out 1).trans rfl; have hfz12_0 := blk_frozen BK892.out 0; have hfz12_1 := blk_frozen BK892.out 1; have hnb13 := NB891_893.out; have hnc13 := NB893_891.out; have hcz14_0 : w9.cell? ⟨gb891, 0, none⟩ = some (.bool a0_0) := (blk_cell BK891.out 0).trans rfl; have hcz14_1 : w9.cell? ⟨gb891, 1, none⟩ = some (.slice A0_1 l0_1.length c0_1) := (blk_cell BK891.out 1).trans rfl; have hfz14_0 := blk_frozen BK891.out 0; have hfz14_1 := blk_frozen BK891.out 1))
  go_cut [] (fun wc => ∃ (An : Option Addr) (cn : Nat) (Ad : Option Addr) (cd : Nat), Aside0 (wc.heap[gb891]? = some (.cells #[.bool n1, .slice An nl.length cn] 31 (0, 0))) ∧ Aside0 (wc.heap[gb892]? = some (.cells #[.bool false, .slice Ad dl.length cd] 31 (0, 0))) ∧ Aside0 (wc.heap[gb893]? = some (.cells #[.bool false, .slice none 0 0] 31 (0, 0))) ∧ Aside0 (Kd.C (Kd.int .i64) wc An nl.length nl) ∧ Aside0 (nl.length ≤ cn) ∧ Aside0 (Kd.C (Kd.int .i64) wc Ad dl.length dl) ∧ Aside0 (dl.length ≤ cd) ∧ Aside0 (Below w.heap.size w wc))
  case first =>
    cases a1_0 with
    | false =>
      have HX : Aside0 (n1 = a0_0 ∧ nl = l0_1 ∧ dl = l1_1) := ⟨by rcases HND.out with h | h; exact h.2; exact absurd h.1 (by decide)⟩
      clear HND
      go_wp2_with (fail)
      go_meet
      case rel =>
        obtain ⟨e1, e2, e3⟩ := HX.out
        subst e1 e2 e3
        exact ⟨A0_1, c0_1, A1_1, c1_1, ⟨by (with_reducible repeat (first | refine blk_drewN ?_ _ | refine blk_drew ?_ | refine blk_alloc ?_ _)); exact BK891.out⟩, ⟨by (with_reducible repeat (first | refine blk_drewN ?_ _ | refine blk_drew ?_ | refine blk_alloc ?_ _)); exact BK892.out⟩, ⟨by (with_reducible repeat (first | refine blk_drewN ?_ _ | refine blk_drew ?_ | refine blk_alloc ?_ _)); exact BK893.out⟩, ⟨Kd.C_below HR0_1.out HB.out⟩, ⟨HC0_1.out⟩, ⟨Kd.C_below HR1_1.out HB.out⟩, ⟨HC1_1.out⟩, ⟨HB.out⟩⟩
    | true =>
      have HX : Aside0 (merinoref01_Neg.f k a0_0 l0_1 = some (n1, nl) ∧ merinoref01_Neg.f k true l1_1 = some (false, dl)) := ⟨by rcases HND.out with h | h; exact absurd h.1 (by decide); exact h.2⟩
      clear HND
      go_upto_region 2 with (fail)
      obtain ⟨hN, hD⟩ := HX.out
      have HN := Aside0.mk hN
      have HD := Aside0.mk hD
      clear hN hD HX
      have kc : ∀ w', Below w9.heap.size w9 w' → (w'.cell? ⟨gb891, 0, none⟩ = some (.bool a0_0) ∧ w'.cell? ⟨gb891, 1, none⟩ = some (.slice A0_1 l0_1.length c0_1)) ∧ (w'.cell? ⟨gb892, 0, none⟩ = some (.bool true) ∧ w'.cell? ⟨gb892, 1, none⟩ = some (.slice A1_1 l1_1.length c1_1)) := fun w' hb => ⟨⟨(blk_cell (blk_below BK891.out hb) 0).trans rfl, (blk_cell (blk_below BK891.out hb) 1).trans rfl⟩, ⟨(blk_cell (blk_below BK892.out hb) 0).trans rfl, (blk_cell (blk_below BK892.out hb) 1).trans rfl⟩⟩
      have KC := Aside0.mk kc
      clear kc
      refine start_ (n := 6) (S := fun w' => Below w9.heap.size w9 w') (ds := [4, 5]) #[false, false, false, false, false, false] (by kernel_rfl) rfl rfl (Below.drew (Below.refl _ _)) (fun hHeld => ?_)
      refine take_ (i := 0) (N := some 13) (v := ?_) (a' := ?_) #[true, false, false, false, false, false] rfl rfl (by kernel_rfl) (fun _ _ _ h => h) (Or.inl ⟨by rfl, ?_⟩) hHeld ?_ ?_
      rotate_left
      · rintro w' hS
        obtain ⟨⟨k0, k1⟩, k2, k3⟩ := KC.out w' hS
        go_simp
        with_reducible rfl
      rotate_left
      · simp only [Act.put, List.setIfInBounds_toArray, List.set_cons_zero, List.set_cons_succ, i64_w, i32_w]
        rfl
      refine take_ (i := 2) (N := some 15) (v := ?_) (a' := ?_) #[true, false, true, false, false, false] rfl rfl (by kernel_rfl) (fun _ _ _ h => h) (Or.inl ⟨by rfl, ?_⟩) hHeld ?_ ?_
      rotate_left
      · rintro w' hS
        obtain ⟨⟨k0, k1⟩, k2, k3⟩ := KC.out w' hS
        go_simp
        with_reducible rfl
      rotate_left
      · simp only [Act.put, List.setIfInBounds_toArray, List.set_cons_zero, List.set_cons_succ, i64_w, i32_w]
        rfl
      refine one_ (i := 1) (N := some 14) #[true, true, true, false, false, false] rfl rfl (by kernel_rfl) (by decide) (fun K hK => ?_)
      refine goes_ Tryd.func75 (by kernel_rfl) rfl #[.agg #[.bool a0_0, .slice A0_1 l0_1.length c0_1]] (by rfl) rfl rfl (by (try simp only [List.map_toArray, List.map_cons, List.map_nil]); first | done | rfl) ?_
      refine (merinoref01_Neg.calls k a0_0 A0_1 c0_1 l0_1 n1 nl _ (Kd.C_below HR0_1.out (below_step HB.out hHeld)) HC0_1.out HN.out).mono ?_
      rintro e w1 ⟨vn, rfl, hn, hb1⟩
      refine ⟨_, rfl, ?_⟩
      have b1_ := Aside0.mk (Below.trans hHeld (hb1.mono hHeld.size))
      have VN := Aside0.mk hn
      clear hn hb1
      refine hK.out _ _ b1_.out (fun hHeld => ?_)
      clear hK K
      refine norm_ (a' := ?_) ?_ ?_
      rotate_left
      · show Act.put _ (some 14) _ = _
        simp only [Act.put, List.setIfInBounds_toArray, List.set_cons_zero, List.set_cons_succ, i64_w, i32_w]
        rfl
      refine one_ (i := 3) (N := some 16) #[true, true, true, true, false, false] rfl rfl (by kernel_rfl) (by decide) (fun K hK => ?_)
      refine goes_ Tryd.func75 (by kernel_rfl) rfl #[.agg #[.bool true, .slice A1_1 l1_1.length c1_1]] (by rfl) rfl rfl (by (try simp only [List.map_toArray, List.map_cons, List.map_nil]); first | done | rfl) ?_
      refine (merinoref01_Neg.calls k true A1_1 c1_1 l1_1 false dl _ (Kd.C_below HR1_1.out (below_step HB.out hHeld)) HC1_1.out HD.out).mono ?_
      rintro e w2 ⟨vd, rfl, hd, hb2⟩
      refine ⟨_, rfl, ?_⟩
      have VN2 := Aside0.mk (Kd.R_below VN.out hb2)
      have b2_ := Aside0.mk (Below.trans b1_.out (hb2.mono b1_.out.size))
      have VD := Aside0.mk hd
      clear hd hb2
      refine hK.out _ _ b2_.out (fun hHeld => ?_)
      clear hK K
      refine norm_ (a' := ?_) ?_ ?_
      rotate_left
      · show Act.put _ (some 16) _ = _
        simp only [Act.put, List.setIfInBounds_toArray, List.set_cons_zero, List.set_cons_succ, i64_w, i32_w]
        rfl
      obtain ⟨An, cn, en⟩ := Kd.R_slice VN2.out
      subst en
      obtain ⟨Ad, cd, ed⟩ := Kd.R_slice VD.out
      subst ed
      have Q4 := Aside0.mk (blk_below BK891.out b2_.out)
      have Q5 := Aside0.mk (blk_below BK892.out b2_.out)
      have Q6 := Aside0.mk (blk_below BK893.out b2_.out)
      have HB2 := Aside0.mk (below_step HB.out b2_.out)
      have z0 := (blk_cell Q4.out 0).trans rfl
      have z1 := (blk_cell Q4.out 1).trans rfl
      have z2 := blk_frozen Q4.out 0
      have z3 := blk_frozen Q4.out 1
      have z4 := (blk_cell Q5.out 0).trans rfl
      have z5 := (blk_cell Q5.out 1).trans rfl
      have z6 := blk_frozen Q5.out 0
      have z7 := blk_frozen Q5.out 1
      have nb := NB891_892.out
      have nc := NB892_891.out
      refine last_ (i := 4) (N := none) #[true, true, true, true, true, false] rfl rfl (by kernel_rfl) (by decide) (fun K hK => ?_)
      refine skip_ (w1 := ?_) (by rfl) rfl ?_ ?_
      rotate_left
      · go_simp
        with_reducible rfl
      refine hK.out _ _ ?_
      clear hK K
      refine last_ (i := 5) (N := none) #[true, true, true, true, true, true] rfl rfl (by kernel_rfl) (by decide) (fun K hK => ?_)
      refine skip_ (w1 := ?_) (by rfl) rfl ?_ ?_
      rotate_left
      · go_simp
        with_reducible rfl
      refine hK.out _ _ ?_
      clear hK K
      refine done_ (by kernel_rfl) ?_
      clear z0 z1 z2 z3 z4 z5 z6 z7
      go_wp2_with (fail)
      go_meet
      case rel =>
        exact ⟨An, cn, Ad, cd, ⟨blk_far (blk_far (blk_put (cs := #[.bool n1, .slice A0_1 l0_1.length c0_1]) (blk_put (cs := #[.bool a0_0, .slice A0_1 l0_1.length c0_1]) Q4.out 0 _ rfl) 1 _ rfl) nb _) nb _⟩, ⟨blk_put (cs := #[.bool false, .slice A1_1 l1_1.length c1_1]) (blk_put (cs := #[.bool true, .slice A1_1 l1_1.length c1_1]) (blk_far (blk_far Q5.out nc _) nc _) 0 _ rfl) 1 _ rfl⟩, ⟨blk_far (blk_far (blk_far (blk_far Q6.out NB893_891.out _) NB893_891.out _) NB893_892.out _) NB893_892.out _⟩, ⟨(Kd.V_reads' (Kd.V_far (Kd.V_far (Kd.V_far (Kd.V_far (Kd.V_mono (ok' := fun k => k ≠ gb891 ∧ k ≠ gb892) (Kd.R_V (base' := 0) (Kd.R_bound VN2.out)) (fun k hk => ⟨fun e_ => by have a1 : w9.heap.size ≤ k := hk.2.1; have a2 := blk_lt BK891.out; omega, fun e_ => by have a1 : w9.heap.size ≤ k := hk.2.1; have a2 := blk_lt BK892.out; omega⟩)) (fun k hk => hk.1) _) (fun k hk => hk.1) _) (fun k hk => hk.2) _) (fun k hk => hk.2) _)).2.2⟩, ⟨(Kd.R_reads' VN2.out).2.1⟩, ⟨(Kd.V_reads' (Kd.V_far (Kd.V_far (Kd.V_far (Kd.V_far (Kd.V_mono (ok' := fun k => k ≠ gb891 ∧ k ≠ gb892) (Kd.R_V (base' := 0) (Kd.R_bound VD.out)) (fun k hk => ⟨fun e_ => by have a1 : w1.heap.size ≤ k := hk.2.1; have a3 := b1_.out.size; have a2 := blk_lt BK891.out; omega, fun e_ => by have a1 : w1.heap.size ≤ k := hk.2.1; have a3 := b1_.out.size; have a2 := blk_lt BK892.out; omega⟩)) (fun k hk => hk.1) _) (fun k hk => hk.1) _) (fun k hk => hk.2) _) (fun k hk => hk.2) _)).2.2⟩, ⟨(Kd.R_reads' VD.out).2.1⟩, ⟨below_set (below_set (below_set (below_set HB2.out GE891.out) GE891.out) GE892.out) GE892.out⟩⟩
  case rest =>
    clear BK891 BK892 BK893 HB HND HR0_1 HC0_1 HR1_1 HC1_1
    obtain ⟨An, cn, Ad, cd, BK891, BK892, BK893, HR0_1, HC0_1, HR1_1, HC1_1, HBw⟩ := hcut
    obtain ⟨wb, hwb⟩ : ∃ wb, wb = wc := ⟨_, rfl⟩
    subst hwb
    have HB := Aside0.mk (Below.refl wb.heap.size wb)
    have hcq0 := (blk_cell BK891.out 0).trans rfl
    have hcq1 := (blk_cell BK891.out 1).trans rfl
    have hfq0 := blk_frozen BK891.out 0
    have hfq1 := blk_frozen BK891.out 1
    have hcq2 := (blk_cell BK892.out 0).trans rfl
    have hcq3 := (blk_cell BK892.out 1).trans rfl
    have hfq2 := blk_frozen BK892.out 0
    have hfq3 := blk_frozen BK892.out 1
    have h := HH.out
    clear HH
    have H : ((merinoref01_Over.f k n1 nl false dl).bind fun bt894 => ((merinoref01_Zero.f bt894.2.2.1 bt894.2.2.2).bind fun t904 => (if t904 = true then (some (bt894.1, bt894.2.1)) else ((merinoref01_Plus.f k bt894.2.2.1 bt894.2.2.2 bt894.2.2.1 bt894.2.2.2).bind fun bt905 => ((merinoref01_Compare.f k bt905.1 bt905.2 false dl).bind fun t909 => (if a2 = 1 then (merinoref01_Rounded.j0 k true bt894.1 bt894.2.1) else (if a2 = 2 then (merinoref01_Rounded.j0 k n1 bt894.1 bt894.2.1) else (if a2 = 3 then (merinoref01_Rounded.j0 k (decide (t909 ≥ 0)) bt894.1 bt894.2.1) else (if a2 = 4 then (if t909 > 0 then (merinoref01_Rounded.j0 k true bt894.1 bt894.2.1) else (if t909 = 0 then (if (bt894.2.1.length : Int) > 0 then (if 0 < (bt894.2.1.length : Int) then (merinoref01_Rounded.j0 k ((Int.tmod (rd bt894.2.1 0) 2) == 1) bt894.1 bt894.2.1) else (none)) else (merinoref01_Rounded.j0 k false bt894.1 bt894.2.1)) else (merinoref01_Rounded.j0 k false bt894.1 bt894.2.1))) else (merinoref01_Rounded.j0 k false bt894.1 bt894.2.1)))))))))) = some (r1, r2) := h
    clear h
    replace H := Option.bind_eq_some_iff.mp H
    obtain ⟨⟨t894, t895, t898, t899⟩, A40, H⟩ := H
    replace H : ((merinoref01_Zero.f t898 t899).bind fun t904 => (if t904 = true then (some (t894, t895)) else ((merinoref01_Plus.f k t898 t899 t898 t899).bind fun bt905 => ((merinoref01_Compare.f k bt905.1 bt905.2 false dl).bind fun t909 => (if a2 = 1 then (merinoref01_Rounded.j0 k true t894 t895) else (if a2 = 2 then (merinoref01_Rounded.j0 k n1 t894 t895) else (if a2 = 3 then (merinoref01_Rounded.j0 k (decide (t909 ≥ 0)) t894 t895) else (if a2 = 4 then (if t909 > 0 then (merinoref01_Rounded.j0 k true t894 t895) else (if t909 = 0 then (if (t895.length : Int) > 0 then (if 0 < (t895.length : Int) then (merinoref01_Rounded.j0 k ((Int.tmod (rd t895 0) 2) == 1) t894 t895) else (none)) else (merinoref01_Rounded.j0 k false t894 t895)) else (merinoref01_Rounded.j0 k false t894 t895))) else (merinoref01_Rounded.j0 k false t894 t895))))))))) = some (r1, r2) := H
    have A4 := Aside0.mk A40
    clear A40
    replace H := Option.bind_eq_some_iff.mp H
    obtain ⟨t904, A50, H⟩ := H
    replace H : (if t904 = true then (some (t894, t895)) else ((merinoref01_Plus.f k t898 t899 t898 t899).bind fun bt905 => ((merinoref01_Compare.f k bt905.1 bt905.2 false dl).bind fun t909 => (if a2 = 1 then (merinoref01_Rounded.j0 k true t894 t895) else (if a2 = 2 then (merinoref01_Rounded.j0 k n1 t894 t895) else (if a2 = 3 then (merinoref01_Rounded.j0 k (decide (t909 ≥ 0)) t894 t895) else (if a2 = 4 then (if t909 > 0 then (merinoref01_Rounded.j0 k true t894 t895) else (if t909 = 0 then (if (t895.length : Int) > 0 then (if 0 < (t895.length : Int) then (merinoref01_Rounded.j0 k ((Int.tmod (rd t895 0) 2) == 1) t894 t895) else (none)) else (merinoref01_Rounded.j0 k false t894 t895)) else (merinoref01_Rounded.j0 k false t894 t895))) else (merinoref01_Rounded.j0 k false t894 t895)))))))) = some (r1, r2) := H
    have A5 := Aside0.mk A50
    clear A50
    by_cases c6 : t904 = true
    · subst c6
      have H1 : (some (t894, t895)) = some (r1, r2) := by rw [if_pos rfl] at H; exact H
      clear H
      have H := H1
      clear H1
      simp only [Option.some.injEq, Prod.mk.injEq] at H
      obtain ⟨rfl, rfl⟩ := H
      go_wp2_with (first | ((with_reducible refine gate_callee (f := 67) rfl ?_); refine goesL_ (some 20) rfl rfl Tryd.func67 (by kernel_rfl) rfl #[.agg #[.bool n1, .slice An nl.length cn], .agg #[.bool false, .slice Ad dl.length cd]] rfl qe_ ?_; (with_reducible refine (merinoref01_Over.calls k n1 _ _ nl false _ _ dl t894 t895 t898 t899 _ ?side1 ?side2 ?side3 ?side4 A4.out).mono ?_); (case side1 => exact qc_ (Kd.C_below HR0_1.out HB.out)); (case side2 => exact HC0_1.out); (case side3 => exact qc_ (Kd.C_below HR1_1.out HB.out)); (case side4 => exact HC1_1.out); rintro e w15 ⟨v896, v900, rfl, ho0, ho1, hb⟩; refine ⟨_, rfl, ?_⟩; have n0_ := Aside0.mk (Kd.R_lower ho0 (below_size (q3_ HB.out GE891.out GE892.out GE893.out))); have n1_ := Aside0.mk (Kd.R_lower ho1 (below_size (q3_ HB.out GE891.out GE892.out GE893.out))); have n2_ := Aside0.mk (blk_below (g := gb891) (o := .cells #[.bool n1, .slice An nl.length cn] 31 (0, 0)) (qb_ BK891.out) hb); have n3_ := Aside0.mk (blk_below (g := gb892) (o := .cells #[.bool false, .slice Ad dl.length cd] 31 (0, 0)) (qb_ BK892.out) hb); have n4_ := Aside0.mk (blk_below (g := gb893) (o := .cells #[.bool false, .slice none 0 0] 31 (0, 0)) (qb_ BK893.out) hb); have n5_ := Aside0.mk (below_step (q3_ HB.out GE891.out GE892.out GE893.out) hb); clear BK891; clear BK892; clear BK893; clear HB; have HO897 := n0_; have HO901 := n1_; have BK891 := n2_; have BK892 := n3_; have BK893 := n4_; have HB := n5_; clear n0_ n1_ n2_ n3_ n4_ n5_; (try clear hb); (try clear hb2); (try clear hk); (try clear hi); (try clear ho0); (try clear ho1)) | ((with_reducible refine gate_dst (N := 7) rfl ?_); (try (refine gate_guard (by rfl) ?_; dsimp only)); refine box_event ?hg (N := 7) ?hd (cs := #[.bool false, .slice none 0 0]) (t := 31) ?hr ?_; (case hd => rfl); (case hg => rfl); (case hr => first | (go_simp; done) | (go_simp; rfl)); intro gb902 hg w16 hbox hb; have n0_ := Aside0.mk (Kd.R_below (qr_ HO897.out) hb); have n1_ := Aside0.mk (Kd.R_below (qr_ HO901.out) hb); have n2_ := Aside0.mk (blk_below (g := gb891) (o := .cells #[.bool n1, .slice An nl.length cn] 31 (0, 0)) (qb_ BK891.out) hb); have n3_ := Aside0.mk (blk_below (g := gb892) (o := .cells #[.bool false, .slice Ad dl.length cd] 31 (0, 0)) (qb_ BK892.out) hb); have n4_ := Aside0.mk (blk_below (g := gb893) (o := .cells #[.bool false, .slice none 0 0] 31 (0, 0)) (qb_ BK893.out) hb); have n5_ := Aside0.mk (below_step (q3_ HB.out GE891.out GE892.out GE893.out) hb); have n6_ := Aside0.mk (hbox); have n7_ := Aside0.mk ((by rw [hg]; exact (below_size (q3_ HB.out GE891.out GE892.out GE893.out)) : wb.heap.size ≤ gb902)); have n8_ := Aside0.mk ((by rw [hg]; exact (below_size (q3_ HB.out GE891.out GE892.out GE893.out)) : wb.heap.size ≤ gb902)); have n9_ := Aside0.mk ((by rw [hg]; exact Nat.ne_of_lt (blk_lt (g := gb891) (o := .cells #[.bool n1, .slice An nl.length cn] 31 (0, 0)) (qb_ BK891.out)) : gb891 ≠ gb902)); have n10_ := Aside0.mk ((by rw [hg]; exact Nat.ne_of_gt (blk_lt (g := gb891) (o := .cells #[.bool n1, .slice An nl.length cn] 31 (0, 0)) (qb_ BK891.out)) : gb902 ≠ gb891)); have n11_ := Aside0.mk ((by rw [hg]; exact Nat.ne_of_lt (blk_lt (g := gb892) (o := .cells #[.bool false, .slice Ad dl.length cd] 31 (0, 0)) (qb_ BK892.out)) : gb892 ≠ gb902)); have n12_ := Aside0.mk ((by rw [hg]; exact Nat.ne_of_gt (blk_lt (g := gb892) (o := .cells #[.bool false, .slice Ad dl.length cd] 31 (0, 0)) (qb_ BK892.out)) : gb902 ≠ gb892)); have n13_ := Aside0.mk ((by rw [hg]; exact Nat.ne_of_lt (blk_lt (g := gb893) (o := .cells #[.bool false, .slice none 0 0] 31 (0, 0)) (qb_ BK893.out)) : gb893 ≠ gb902)); have n14_ := Aside0.mk ((by rw [hg]; exact Nat.ne_of_gt (blk_lt (g := gb893) (o := .cells #[.bool false, .slice none 0 0] 31 (0, 0)) (qb_ BK893.out)) : gb902 ≠ gb893)); clear HO897; clear HO901; clear BK891; clear BK892; clear BK893; clear HB; have HO897 := n0_; have HO901 := n1_; have BK891 := n2_; have BK892 := n3_; have BK893 := n4_; have HB := n5_; have BK902 := n6_; have GW902 := n7_; have GE902 := n8_; have NB891_902 := n9_; have NB902_891 := n10_; have NB892_902 := n11_; have NB902_892 := n12_; have NB893_902 := n13_; have NB902_893 := n14_; clear n0_ n1_ n2_ n3_ n4_ n5_ n6_ n7_ n8_ n9_ n10_ n11_ n12_ n13_ n14_; clear hb hbox hg) | ((with_reducible refine gate_dst (N := 8) rfl ?_); (try (refine gate_guard (by rfl) ?_; dsimp only)); refine box_event ?hg (N := 8) ?hd (cs := #[.bool false, .slice none 0 0]) (t := 31) ?hr ?_; (case hd => rfl); (case hg => rfl); (case hr => first | (go_simp; done) | (go_simp; rfl)); intro gb903 hg w17 hbox hb; have n0_ := Aside0.mk (Kd.R_below (qr_ HO897.out) hb); have n1_ := Aside0.mk (Kd.R_below (qr_ HO901.out) hb); have n2_ := Aside0.mk (blk_below (g := gb891) (o := .cells #[.bool n1, .slice An nl.length cn] 31 (0, 0)) (qb_ BK891.out) hb); have n3_ := Aside0.mk (blk_below (g := gb892) (o := .cells #[.bool false, .slice Ad dl.length cd] 31 (0, 0)) (qb_ BK892.out) hb); have n4_ := Aside0.mk (blk_below (g := gb893) (o := .cells #[.bool false, .slice none 0 0] 31 (0, 0)) (qb_ BK893.out) hb); have n5_ := Aside0.mk (blk_below (g := gb902) (o := .cells #[.bool false, .slice none 0 0] 31 (0, 0)) (qb_ BK902.out) hb); have n6_ := Aside0.mk (below_step (q4_ HB.out GE891.out GE892.out GE893.out GE902.out) hb); have n7_ := Aside0.mk (hbox); have n8_ := Aside0.mk ((by rw [hg]; exact (below_size (q4_ HB.out GE891.out GE892.out GE893.out GE902.out)) : wb.heap.size ≤ gb903)); have n9_ := Aside0.mk ((by rw [hg]; exact (below_size (q4_ HB.out GE891.out GE892.out GE893.out GE902.out)) : wb.heap.size ≤ gb903)); have n10_ := Aside0.mk ((by rw [hg]; exact Nat.ne_of_lt (blk_lt (g := gb891) (o := .cells #[.bool n1, .slice An nl.length cn] 31 (0, 0)) (qb_ BK891.out)) : gb891 ≠ gb903)); have n11_ := Aside0.mk ((by rw [hg]; exact Nat.ne_of_gt (blk_lt (g := gb891) (o := .cells #[.bool n1, .slice An nl.length cn] 31 (0, 0)) (qb_ BK891.out)) : gb903 ≠ gb891)); have n12_ := Aside0.mk ((by rw [hg]; exact Nat.ne_of_lt (blk_lt (g := gb892) (o := .cells #[.bool false, .slice Ad dl.length cd] 31 (0, 0)) (qb_ BK892.out)) : gb892 ≠ gb903)); have n13_ := Aside0.mk ((by rw [hg]; exact Nat.ne_of_gt (blk_lt (g := gb892) (o := .cells #[.bool false, .slice Ad dl.length cd] 31 (0, 0)) (qb_ BK892.out)) : gb903 ≠ gb892)); have n14_ := Aside0.mk ((by rw [hg]; exact Nat.ne_of_lt (blk_lt (g := gb893) (o := .cells #[.bool false, .slice none 0 0] 31 (0, 0)) (qb_ BK893.out)) : gb893 ≠ gb903)); have n15_ := Aside0.mk ((by rw [hg]; exact Nat.ne_of_gt (blk_lt (g := gb893) (o := .cells #[.bool false, .slice none 0 0] 31 (0, 0)) (qb_ BK893.out)) : gb903 ≠ gb893)); have n16_ := Aside0.mk ((by rw [hg]; exact Nat.ne_of_lt (blk_lt (g := gb902) (o := .cells #[.bool false, .slice none 0 0] 31 (0, 0)) (qb_ BK902.out)) : gb902 ≠ gb903)); have n17_ := Aside0.mk ((by rw [hg]; exact Nat.ne_of_gt (blk_lt (g := gb902) (o := .cells #[.bool false, .slice none 0 0] 31 (0, 0)) (qb_ BK902.out)) : gb903 ≠ gb902)); clear HO897; clear HO901; clear BK891; clear BK892; clear BK893; clear BK902; clear HB; have HO897 := n0_; have HO901 := n1_; have BK891 := n2_; have BK892 := n3_; have BK893 := n4_; have BK902 := n5_; have HB := n6_; have BK903 := n7_; have GW903 := n8_; have GE903 := n9_; have NB891_903 := n10_; have NB903_891 := n11_; have NB892_903 := n12_; have NB903_892 := n13_; have NB893_903 := n14_; have NB903_893 := n15_; have NB902_903 := n16_; have NB903_902 := n17_; clear n0_ n1_ n2_ n3_ n4_ n5_ n6_ n7_ n8_ n9_ n10_ n11_ n12_ n13_ n14_ n15_ n16_ n17_; clear hb hbox hg; have hnb18 := NB902_891.out; have hnc18 := NB891_902.out; have hnb19 := NB902_892.out; have hnc19 := NB892_902.out; have hnb20 := NB902_893.out; have hnc20 := NB893_902.out; have hnb21 := NB902_903.out; have hnc21 := NB903_902.out; have hcz22_0 : w17.cell? ⟨gb902, 0, none⟩ = some (.bool false) := (blk_cell BK902.out 0).trans rfl; have hcz22_1 : w17.cell? ⟨gb902, 1, none⟩ = some (.slice none 0 0) := (blk_cell BK902.out 1).trans rfl; have hfz22_0 := blk_frozen BK902.out 0; have hfz22_1 := blk_frozen BK902.out 1; obtain ⟨Ao23, co23, eo23⟩ := Kd.R_slice HO897.out; subst eo23; have hnb24 := NB903_891.out; have hnc24 := NB891_903.out; have hnb25 := NB903_892.out; have hnc25 := NB892_903.out; have hnb26 := NB903_893.out; have hnc26 := NB893_903.out; have hcz27_0 : w17.cell? ⟨gb903, 0, none⟩ = some (.bool false) := (blk_cell BK903.out 0).trans rfl; have hcz27_1 : w17.cell? ⟨gb903, 1, none⟩ = some (.slice none 0 0) := (blk_cell BK903.out 1).trans rfl; have hfz27_0 := blk_frozen BK903.out 0; have hfz27_1 := blk_frozen BK903.out 1; obtain ⟨Ao28, co28, eo28⟩ := Kd.R_slice HO901.out; subst eo28) | ((with_reducible refine gate_callee (f := 69) rfl ?_); refine goesL_ (some 24) rfl rfl Tryd.func69 (by kernel_rfl) rfl #[.agg #[.bool t898, .slice Ao28 t899.length co28]] rfl qe_ ?_; (with_reducible refine (merinoref01_Zero.calls t898 _ _ t899 true _ ?side1 ?side2 A5.out).mono ?_); (case side1 => refine (Kd.R_reads' (e := 3) (base := wb.heap.size) (ok := fun k_ => some k_ ≠ (.slice Ao23 t895.length co23 : Value).ownBlock) (n := t899.length) (c := co28) ?_).2.2; exact (by (with_reducible repeat (first | apply Kd.R_alloc | apply Kd.R_drewN | apply Kd.R_drew)); exact (Kd.R_mono (Kd.R_mono (Kd.R_far (p := ⟨gb903, 1, none⟩) (Kd.R_far (p := ⟨gb903, 0, none⟩) (Kd.R_far (p := ⟨gb902, 1, none⟩) (Kd.R_far (p := ⟨gb902, 0, none⟩) (Kd.R_types (Kd.R_types HO901.out BK902.out (by decide)) BK903.out (by decide)) (fun _ hk => hk.1.2) (.bool t894)) (fun _ hk => hk.1.2) (.slice Ao23 t895.length co23)) (fun _ hk => hk.2) (.bool t898)) (fun _ hk => hk.2) (.slice Ao28 t899.length co28)) (fun _ h_ => h_.1)) (fun _ h_ => h_.1)))); (case side2 => exact (Kd.R_reads' HO901.out).2.1); rintro e w29 ⟨rfl, hb⟩; refine ⟨_, rfl, ?_⟩; have n0_ := Aside0.mk (Kd.R_below (by (with_reducible repeat (first | apply Kd.R_alloc | apply Kd.R_drewN | apply Kd.R_drew)); exact (Kd.R_mono (Kd.R_mono (Kd.R_far (p := ⟨gb903, 1, none⟩) (Kd.R_far (p := ⟨gb903, 0, none⟩) (Kd.R_far (p := ⟨gb902, 1, none⟩) (Kd.R_far (p := ⟨gb902, 0, none⟩) (Kd.R_types (Kd.R_types HO897.out BK902.out (by decide)) BK903.out (by decide)) (fun _ hk => hk.1.2) (.bool t894)) (fun _ hk => hk.1.2) (.slice Ao23 t895.length co23)) (fun _ hk => hk.2) (.bool t898)) (fun _ hk => hk.2) (.slice Ao28 t899.length co28)) (fun _ h_ => h_.1)) (fun _ h_ => h_.1))) hb); have n1_ := Aside0.mk (Kd.R_below (by (with_reducible repeat (first | apply Kd.R_alloc | apply Kd.R_drewN | apply Kd.R_drew)); exact (Kd.R_mono (Kd.R_mono (Kd.R_far (p := ⟨gb903, 1, none⟩) (Kd.R_far (p := ⟨gb903, 0, none⟩) (Kd.R_far (p := ⟨gb902, 1, none⟩) (Kd.R_far (p := ⟨gb902, 0, none⟩) (Kd.R_types (Kd.R_types HO901.out BK902.out (by decide)) BK903.out (by decide)) (fun _ hk => hk.1.2) (.bool t894)) (fun _ hk => hk.1.2) (.slice Ao23 t895.length co23)) (fun _ hk => hk.2) (.bool t898)) (fun _ hk => hk.2) (.slice Ao28 t899.length co28)) (fun _ h_ => h_.1)) (fun _ h_ => h_.1))) hb); have n2_ := Aside0.mk (blk_below (g := gb891) (o := .cells #[.bool n1, .slice An nl.length cn] 31 (0, 0)) (by (with_reducible repeat (first | refine blk_drewN ?_ _ | refine blk_drew ?_ | refine blk_alloc ?_ _)); refine blk_far ?_ NB891_903.out _; (with_reducible repeat (first | refine blk_drewN ?_ _ | refine blk_drew ?_ | refine blk_alloc ?_ _)); refine blk_far ?_ NB891_903.out _; (with_reducible repeat (first | refine blk_drewN ?_ _ | refine blk_drew ?_ | refine blk_alloc ?_ _)); refine blk_far ?_ NB891_902.out _; (with_reducible repeat (first | refine blk_drewN ?_ _ | refine blk_drew ?_ | refine blk_alloc ?_ _)); refine blk_far ?_ NB891_902.out _; (with_reducible repeat (first | refine blk_drewN ?_ _ | refine blk_drew ?_ | refine blk_alloc ?_ _)); exact BK891.out) hb); have n3_ := Aside0.mk (blk_below (g := gb892) (o := .cells #[.bool false, .slice Ad dl.length cd] 31 (0, 0)) (by (with_reducible repeat (first | refine blk_drewN ?_ _ | refine blk_drew ?_ | refine blk_alloc ?_ _)); refine blk_far ?_ NB892_903.out _; (with_reducible repeat (first | refine blk_drewN ?_ _ | refine blk_drew ?_ | refine blk_alloc ?_ _)); refine blk_far ?_ NB892_903.out _; (with_reducible repeat (first | refine blk_drewN ?_ _ | refine blk_drew ?_ | refine blk_alloc ?_ _)); refine blk_far ?_ NB892_902.out _; (with_reducible repeat (first | refine blk_drewN ?_ _ | refine blk_drew ?_ | refine blk_alloc ?_ _)); refine blk_far ?_ NB892_902.out _; (with_reducible repeat (first | refine blk_drewN ?_ _ | refine blk_drew ?_ | refine blk_alloc ?_ _)); exact BK892.out) hb); have n4_ := Aside0.mk (blk_below (g := gb893) (o := .cells #[.bool false, .slice none 0 0] 31 (0, 0)) (by (with_reducible repeat (first | refine blk_drewN ?_ _ | refine blk_drew ?_ | refine blk_alloc ?_ _)); refine blk_far ?_ NB893_903.out _; (with_reducible repeat (first | refine blk_drewN ?_ _ | refine blk_drew ?_ | refine blk_alloc ?_ _)); refine blk_far ?_ NB893_903.out _; (with_reducible repeat (first | refine blk_drewN ?_ _ | refine blk_drew ?_ | refine blk_alloc ?_ _)); refine blk_far ?_ NB893_902.out _; (with_reducible repeat (first | refine blk_drewN ?_ _ | refine blk_drew ?_ | refine blk_alloc ?_ _)); refine blk_far ?_ NB893_902.out _; (with_reducible repeat (first | refine blk_drewN ?_ _ | refine blk_drew ?_ | refine blk_alloc ?_ _)); exact BK893.out) hb); have n5_ := Aside0.mk (blk_below (g := gb902) (o := .cells #[.bool t894, .slice Ao23 t895.length co23] 31 (0, 0)) (by (with_reducible repeat (first | refine blk_drewN ?_ _ | refine blk_drew ?_ | refine blk_alloc ?_ _)); refine blk_far ?_ NB902_903.out _; (with_reducible repeat (first | refine blk_drewN ?_ _ | refine blk_drew ?_ | refine blk_alloc ?_ _)); refine blk_far ?_ NB902_903.out _; (with_reducible repeat (first | refine blk_drewN ?_ _ | refine blk_drew ?_ | refine blk_alloc ?_ _)); refine blk_put (cs := #[.bool t894, .slice none 0 0]) ?_ 1 _ rfl; (with_reducible repeat (first | refine blk_drewN ?_ _ | refine blk_drew ?_ | refine blk_alloc ?_ _)); refine blk_put (cs := #[.bool false, .slice none 0 0]) ?_ 0 _ rfl; (with_reducible repeat (first | refine blk_drewN ?_ _ | refine blk_drew ?_ | refine blk_alloc ?_ _)); exact BK902.out) hb); have n6_ := Aside0.mk (blk_below (g := gb903) (o := .cells #[.bool t898, .slice Ao28 t899.length co28] 31 (0, 0)) (by (with_reducible repeat (first | refine blk_drewN ?_ _ | refine blk_drew ?_ | refine blk_alloc ?_ _)); refine blk_put (cs := #[.bool t898, .slice none 0 0]) ?_ 1 _ rfl; (with_reducible repeat (first | refine blk_drewN ?_ _ | refine blk_drew ?_ | refine blk_alloc ?_ _)); refine blk_put (cs := #[.bool false, .slice none 0 0]) ?_ 0 _ rfl; (with_reducible repeat (first | refine blk_drewN ?_ _ | refine blk_drew ?_ | refine blk_alloc ?_ _)); refine blk_far ?_ NB903_902.out _; (with_reducible repeat (first | refine blk_drewN ?_ _ | refine blk_drew ?_ | refine blk_alloc ?_ _)); refine blk_far ?_ NB903_902.out _; (with_reducible repeat (first | refine blk_drewN ?_ _ | refine blk_drew ?_ | refine blk_alloc ?_ _)); exact BK903.out) hb); have n7_ := Aside0.mk (below_step (q5_ HB.out GE891.out GE892.out GE893.out GE902.out GE903.out) hb); clear HO897; clear HO901; clear BK891; clear BK892; clear BK893; clear BK902; clear BK903; clear HB; have HO897 := n0_; have HO901 := n1_; have BK891 := n2_; have BK892 := n3_; have BK893 := n4_; have BK902 := n5_; have BK903 := n6_; have HB := n7_; clear n0_ n1_ n2_ n3_ n4_ n5_ n6_ n7_; (try clear hb); (try clear hb2); (try clear hk); (try clear hi); have hcz30_0 : w29.cell? ⟨gb902, 0, none⟩ = some (.bool t894) := (blk_cell BK902.out 0).trans rfl; have hcz30_1 : w29.cell? ⟨gb902, 1, none⟩ = some (.slice Ao23 t895.length co23) := (blk_cell BK902.out 1).trans rfl; have hfz30_0 := blk_frozen BK902.out 0; have hfz30_1 := blk_frozen BK902.out 1; have hcz31_0 : w29.cell? ⟨gb893, 0, none⟩ = some (.bool false) := (blk_cell BK893.out 0).trans rfl; have hcz31_1 : w29.cell? ⟨gb893, 1, none⟩ = some (.slice none 0 0) := (blk_cell BK893.out 1).trans rfl; have hfz31_0 := blk_frozen BK893.out 0; have hfz31_1 := blk_frozen BK893.out 1))
      refine bodyPost_ret (results_cell_row rfl _ _ gb893 31 #[.bool t894, .slice Ao23 t895.length co23] (0, 0) _ rfl (by (with_reducible repeat (first | refine blk_drewN ?_ _ | refine blk_drew ?_ | refine blk_alloc ?_ _)); refine blk_put (cs := #[.bool t894, .slice none 0 0]) ?_ 1 _ rfl; (with_reducible repeat (first | refine blk_drewN ?_ _ | refine blk_drew ?_ | refine blk_alloc ?_ _)); refine blk_put (cs := #[.bool false, .slice none 0 0]) ?_ 0 _ rfl; (with_reducible repeat (first | refine blk_drewN ?_ _ | refine blk_drew ?_ | refine blk_alloc ?_ _)); exact BK893.out) Tryd.underlying31 rfl (by kernel_rfl)) rfl ?_
      exact ⟨_, by first | rfl | (simp [errW_none, errW_some] <;> rfl) | (simp [*, errW_none, errW_some] <;> rfl), by refine Kd.R_lower (base := wb.heap.size) ?_ HBw.out.size; (with_reducible repeat (first | apply Kd.R_alloc | apply Kd.R_drewN | apply Kd.R_drew)); exact Kd.R_mono (Kd.R_far (p := ⟨gb893, 1, none⟩) (Kd.R_far (p := ⟨gb893, 0, none⟩) (Kd.R_types HO897.out BK893.out (by decide)) (fun _ hk => hk.2) (.bool t894)) (fun _ hk => hk.2) (.slice Ao23 t895.length co23)) (fun _ hk => trivial), by repeat (first | (with_reducible first | exact below_step HBw.out HB.out | apply below_alloc | apply pw_below_drewN | apply below_drew1 | refine below_set ?_ GE893.out | refine below_set ?_ (Nat.le_trans HBw.out.size GE902.out) | refine below_set ?_ (Nat.le_trans HBw.out.size GE903.out)) | exact below_step HBw.out HB.out)⟩
    · replace c6 := Bool.eq_false_iff.mpr c6
      subst c6
      have H1 : ((merinoref01_Plus.f k t898 t899 t898 t899).bind fun bt905 => ((merinoref01_Compare.f k bt905.1 bt905.2 false dl).bind fun t909 => (if a2 = 1 then (merinoref01_Rounded.j0 k true t894 t895) else (if a2 = 2 then (merinoref01_Rounded.j0 k n1 t894 t895) else (if a2 = 3 then (merinoref01_Rounded.j0 k (decide (t909 ≥ 0)) t894 t895) else (if a2 = 4 then (if t909 > 0 then (merinoref01_Rounded.j0 k true t894 t895) else (if t909 = 0 then (if (t895.length : Int) > 0 then (if 0 < (t895.length : Int) then (merinoref01_Rounded.j0 k ((Int.tmod (rd t895 0) 2) == 1) t894 t895) else (none)) else (merinoref01_Rounded.j0 k false t894 t895)) else (merinoref01_Rounded.j0 k false t894 t895))) else (merinoref01_Rounded.j0 k false t894 t895))))))) = some (r1, r2) := by rw [if_neg (show ¬ (false = true) by decide)] at H; exact H
      clear H
      have H := H1
      clear H1
      replace H := Option.bind_eq_some_iff.mp H
      obtain ⟨⟨t905, t906⟩, A320, H⟩ := H
      replace H : ((merinoref01_Compare.f k t905 t906 false dl).bind fun t909 => (if a2 = 1 then (merinoref01_Rounded.j0 k true t894 t895) else (if a2 = 2 then (merinoref01_Rounded.j0 k n1 t894 t895) else (if a2 = 3 then (merinoref01_Rounded.j0 k (decide (t909 ≥ 0)) t894 t895) else (if a2 = 4 then (if t909 > 0 then (merinoref01_Rounded.j0 k true t894 t895) else (if t909 = 0 then (if (t895.length : Int) > 0 then (if 0 < (t895.length : Int) then (merinoref01_Rounded.j0 k ((Int.tmod (rd t895 0) 2) == 1) t894 t895) else (none)) else (merinoref01_Rounded.j0 k false t894 t895)) else (merinoref01_Rounded.j0 k false t894 t895))) else (merinoref01_Rounded.j0 k false t894 t895)))))) = some (r1, r2) := H
      have A32 := Aside0.mk A320
      clear A320
      replace H := Option.bind_eq_some_iff.mp H
      obtain ⟨t909, A330, H⟩ := H
      replace H : (if a2 = 1 then (merinoref01_Rounded.j0 k true t894 t895) else (if a2 = 2 then (merinoref01_Rounded.j0 k n1 t894 t895) else (if a2 = 3 then (merinoref01_Rounded.j0 k (decide (t909 ≥ 0)) t894 t895) else (if a2 = 4 then (if t909 > 0 then (merinoref01_Rounded.j0 k true t894 t895) else (if t909 = 0 then (if (t895.length : Int) > 0 then (if 0 < (t895.length : Int) then (merinoref01_Rounded.j0 k ((Int.tmod (rd t895 0) 2) == 1) t894 t895) else (none)) else (merinoref01_Rounded.j0 k false t894 t895)) else (merinoref01_Rounded.j0 k false t894 t895))) else (merinoref01_Rounded.j0 k false t894 t895))))) = some (r1, r2) := H
      have A33 := Aside0.mk A330
      clear A330
      have HC34 := Aside0.mk H
      clear H
      try go_wp2_with (first | ((with_reducible refine gate_callee (f := 67) rfl ?_); refine goesL_ (some 20) rfl rfl Tryd.func67 (by kernel_rfl) rfl #[.agg #[.bool n1, .slice An nl.length cn], .agg #[.bool false, .slice Ad dl.length cd]] rfl qe_ ?_; (with_reducible refine (merinoref01_Over.calls k n1 _ _ nl false _ _ dl t894 t895 t898 t899 _ ?side1 ?side2 ?side3 ?side4 A4.out).mono ?_); (case side1 => exact qc_ (Kd.C_below HR0_1.out HB.out)); (case side2 => exact HC0_1.out); (case side3 => exact qc_ (Kd.C_below HR1_1.out HB.out)); (case side4 => exact HC1_1.out); rintro e w43 ⟨v896, v900, rfl, ho0, ho1, hb⟩; refine ⟨_, rfl, ?_⟩; have n0_ := Aside0.mk (Kd.R_lower ho0 (below_size (q3_ HB.out GE891.out GE892.out GE893.out))); have n1_ := Aside0.mk (Kd.R_lower ho1 (below_size (q3_ HB.out GE891.out GE892.out GE893.out))); have n2_ := Aside0.mk (blk_below (g := gb891) (o := .cells #[.bool n1, .slice An nl.length cn] 31 (0, 0)) (qb_ BK891.out) hb); have n3_ := Aside0.mk (blk_below (g := gb892) (o := .cells #[.bool false, .slice Ad dl.length cd] 31 (0, 0)) (qb_ BK892.out) hb); have n4_ := Aside0.mk (blk_below (g := gb893) (o := .cells #[.bool false, .slice none 0 0] 31 (0, 0)) (qb_ BK893.out) hb); have n5_ := Aside0.mk (below_step (q3_ HB.out GE891.out GE892.out GE893.out) hb); clear BK891; clear BK892; clear BK893; clear HB; have HO897 := n0_; have HO901 := n1_; have BK891 := n2_; have BK892 := n3_; have BK893 := n4_; have HB := n5_; clear n0_ n1_ n2_ n3_ n4_ n5_; (try clear hb); (try clear hb2); (try clear hk); (try clear hi); (try clear ho0); (try clear ho1)) | ((with_reducible refine gate_dst (N := 7) rfl ?_); (try (refine gate_guard (by rfl) ?_; dsimp only)); refine box_event ?hg (N := 7) ?hd (cs := #[.bool false, .slice none 0 0]) (t := 31) ?hr ?_; (case hd => rfl); (case hg => rfl); (case hr => first | (go_simp; done) | (go_simp; rfl)); intro gb902 hg w44 hbox hb; have n0_ := Aside0.mk (Kd.R_below (qr_ HO897.out) hb); have n1_ := Aside0.mk (Kd.R_below (qr_ HO901.out) hb); have n2_ := Aside0.mk (blk_below (g := gb891) (o := .cells #[.bool n1, .slice An nl.length cn] 31 (0, 0)) (qb_ BK891.out) hb); have n3_ := Aside0.mk (blk_below (g := gb892) (o := .cells #[.bool false, .slice Ad dl.length cd] 31 (0, 0)) (qb_ BK892.out) hb); have n4_ := Aside0.mk (blk_below (g := gb893) (o := .cells #[.bool false, .slice none 0 0] 31 (0, 0)) (qb_ BK893.out) hb); have n5_ := Aside0.mk (below_step (q3_ HB.out GE891.out GE892.out GE893.out) hb); have n6_ := Aside0.mk (hbox); have n7_ := Aside0.mk ((by rw [hg]; exact (below_size (q3_ HB.out GE891.out GE892.out GE893.out)) : wb.heap.size ≤ gb902)); have n8_ := Aside0.mk ((by rw [hg]; exact (below_size (q3_ HB.out GE891.out GE892.out GE893.out)) : wb.heap.size ≤ gb902)); have n9_ := Aside0.mk ((by rw [hg]; exact Nat.ne_of_lt (blk_lt (g := gb891) (o := .cells #[.bool n1, .slice An nl.length cn] 31 (0, 0)) (qb_ BK891.out)) : gb891 ≠ gb902)); have n10_ := Aside0.mk ((by rw [hg]; exact Nat.ne_of_gt (blk_lt (g := gb891) (o := .cells #[.bool n1, .slice An nl.length cn] 31 (0, 0)) (qb_ BK891.out)) : gb902 ≠ gb891)); have n11_ := Aside0.mk ((by rw [hg]; exact Nat.ne_of_lt (blk_lt (g := gb892) (o := .cells #[.bool false, .slice Ad dl.length cd] 31 (0, 0)) (qb_ BK892.out)) : gb892 ≠ gb902)); have n12_ := Aside0.mk ((by rw [hg]; exact Nat.ne_of_gt (blk_lt (g := gb892) (o := .cells #[.bool false, .slice Ad dl.length cd] 31 (0, 0)) (qb_ BK892.out)) : gb902 ≠ gb892)); have n13_ := Aside0.mk ((by rw [hg]; exact Nat.ne_of_lt (blk_lt (g := gb893) (o := .cells #[.bool false, .slice none 0 0] 31 (0, 0)) (qb_ BK893.out)) : gb893 ≠ gb902)); have n14_ := Aside0.mk ((by rw [hg]; exact Nat.ne_of_gt (blk_lt (g := gb893) (o := .cells #[.bool false, .slice none 0 0] 31 (0, 0)) (qb_ BK893.out)) : gb902 ≠ gb893)); clear HO897; clear HO901; clear BK891; clear BK892; clear BK893; clear HB; have HO897 := n0_; have HO901 := n1_; have BK891 := n2_; have BK892 := n3_; have BK893 := n4_; have HB := n5_; have BK902 := n6_; have GW902 := n7_; have GE902 := n8_; have NB891_902 := n9_; have NB902_891 := n10_; have NB892_902 := n11_; have NB902_892 := n12_; have NB893_902 := n13_; have NB902_893 := n14_; clear n0_ n1_ n2_ n3_ n4_ n5_ n6_ n7_ n8_ n9_ n10_ n11_ n12_ n13_ n14_; clear hb hbox hg) | ((with_reducible refine gate_dst (N := 8) rfl ?_); (try (refine gate_guard (by rfl) ?_; dsimp only)); refine box_event ?hg (N := 8) ?hd (cs := #[.bool false, .slice none 0 0]) (t := 31) ?hr ?_; (case hd => rfl); (case hg => rfl); (case hr => first | (go_simp; done) | (go_simp; rfl)); intro gb903 hg w45 hbox hb; have n0_ := Aside0.mk (Kd.R_below (qr_ HO897.out) hb); have n1_ := Aside0.mk (Kd.R_below (qr_ HO901.out) hb); have n2_ := Aside0.mk (blk_below (g := gb891) (o := .cells #[.bool n1, .slice An nl.length cn] 31 (0, 0)) (qb_ BK891.out) hb); have n3_ := Aside0.mk (blk_below (g := gb892) (o := .cells #[.bool false, .slice Ad dl.length cd] 31 (0, 0)) (qb_ BK892.out) hb); have n4_ := Aside0.mk (blk_below (g := gb893) (o := .cells #[.bool false, .slice none 0 0] 31 (0, 0)) (qb_ BK893.out) hb); have n5_ := Aside0.mk (blk_below (g := gb902) (o := .cells #[.bool false, .slice none 0 0] 31 (0, 0)) (qb_ BK902.out) hb); have n6_ := Aside0.mk (below_step (q4_ HB.out GE891.out GE892.out GE893.out GE902.out) hb); have n7_ := Aside0.mk (hbox); have n8_ := Aside0.mk ((by rw [hg]; exact (below_size (q4_ HB.out GE891.out GE892.out GE893.out GE902.out)) : wb.heap.size ≤ gb903)); have n9_ := Aside0.mk ((by rw [hg]; exact (below_size (q4_ HB.out GE891.out GE892.out GE893.out GE902.out)) : wb.heap.size ≤ gb903)); have n10_ := Aside0.mk ((by rw [hg]; exact Nat.ne_of_lt (blk_lt (g := gb891) (o := .cells #[.bool n1, .slice An nl.length cn] 31 (0, 0)) (qb_ BK891.out)) : gb891 ≠ gb903)); have n11_ := Aside0.mk ((by rw [hg]; exact Nat.ne_of_gt (blk_lt (g := gb891) (o := .cells #[.bool n1, .slice An nl.length cn] 31 (0, 0)) (qb_ BK891.out)) : gb903 ≠ gb891)); have n12_ := Aside0.mk ((by rw [hg]; exact Nat.ne_of_lt (blk_lt (g := gb892) (o := .cells #[.bool false, .slice Ad dl.length cd] 31 (0, 0)) (qb_ BK892.out)) : gb892 ≠ gb903)); have n13_ := Aside0.mk ((by rw [hg]; exact Nat.ne_of_gt (blk_lt (g := gb892) (o := .cells #[.bool false, .slice Ad dl.length cd] 31 (0, 0)) (qb_ BK892.out)) : gb903 ≠ gb892)); have n14_ := Aside0.mk ((by rw [hg]; exact Nat.ne_of_lt (blk_lt (g := gb893) (o := .cells #[.bool false, .slice none 0 0] 31 (0, 0)) (qb_ BK893.out)) : gb893 ≠ gb903)); have n15_ := Aside0.mk ((by rw [hg]; exact Nat.ne_of_gt (blk_lt (g := gb893) (o := .cells #[.bool false, .slice none 0 0] 31 (0, 0)) (qb_ BK893.out)) : gb903 ≠ gb893)); have n16_ := Aside0.mk ((by rw [hg]; exact Nat.ne_of_lt (blk_lt (g := gb902) (o := .cells #[.bool false, .slice none 0 0] 31 (0, 0)) (qb_ BK902.out)) : gb902 ≠ gb903)); have n17_ := Aside0.mk ((by rw [hg]; exact Nat.ne_of_gt (blk_lt (g := gb902) (o := .cells #[.bool false, .slice none 0 0] 31 (0, 0)) (qb_ BK902.out)) : gb903 ≠ gb902)); clear HO897; clear HO901; clear BK891; clear BK892; clear BK893; clear BK902; clear HB; have HO897 := n0_; have HO901 := n1_; have BK891 := n2_; have BK892 := n3_; have BK893 := n4_; have BK902 := n5_; have HB := n6_; have BK903 := n7_; have GW903 := n8_; have GE903 := n9_; have NB891_903 := n10_; have NB903_891 := n11_; have NB892_903 := n12_; have NB903_892 := n13_; have NB893_903 := n14_; have NB903_893 := n15_; have NB902_903 := n16_; have NB903_902 := n17_; clear n0_ n1_ n2_ n3_ n4_ n5_ n6_ n7_ n8_ n9_ n10_ n11_ n12_ n13_ n14_ n15_ n16_ n17_; clear hb hbox hg; have hnb46 := NB902_891.out; have hnc46 := NB891_902.out; have hnb47 := NB902_892.out; have hnc47 := NB892_902.out; have hnb48 := NB902_893.out; have hnc48 := NB893_902.out; have hnb49 := NB902_903.out; have hnc49 := NB903_902.out; have hcz50_0 : w45.cell? ⟨gb902, 0, none⟩ = some (.bool false) := (blk_cell BK902.out 0).trans rfl; have hcz50_1 : w45.cell? ⟨gb902, 1, none⟩ = some (.slice none 0 0) := (blk_cell BK902.out 1).trans rfl; have hfz50_0 := blk_frozen BK902.out 0; have hfz50_1 := blk_frozen BK902.out 1; obtain ⟨Ao51, co51, eo51⟩ := Kd.R_slice HO897.out; subst eo51; have hnb52 := NB903_891.out; have hnc52 := NB891_903.out; have hnb53 := NB903_892.out; have hnc53 := NB892_903.out; have hnb54 := NB903_893.out; have hnc54 := NB893_903.out; have hcz55_0 : w45.cell? ⟨gb903, 0, none⟩ = some (.bool false) := (blk_cell BK903.out 0).trans rfl; have hcz55_1 : w45.cell? ⟨gb903, 1, none⟩ = some (.slice none 0 0) := (blk_cell BK903.out 1).trans rfl; have hfz55_0 := blk_frozen BK903.out 0; have hfz55_1 := blk_frozen BK903.out 1; obtain ⟨Ao56, co56, eo56⟩ := Kd.R_slice HO901.out; subst eo56) | ((with_reducible refine gate_callee (f := 69) rfl ?_); refine goesL_ (some 24) rfl rfl Tryd.func69 (by kernel_rfl) rfl #[.agg #[.bool t898, .slice Ao56 t899.length co56]] rfl qe_ ?_; (with_reducible refine (merinoref01_Zero.calls t898 _ _ t899 false _ ?side1 ?side2 A5.out).mono ?_); (case side1 => refine (Kd.R_reads' (e := 3) (base := wb.heap.size) (ok := fun k_ => some k_ ≠ (.slice Ao51 t895.length co51 : Value).ownBlock) (n := t899.length) (c := co56) ?_).2.2; exact (by (with_reducible repeat (first | apply Kd.R_alloc | apply Kd.R_drewN | apply Kd.R_drew)); exact (Kd.R_mono (Kd.R_mono (Kd.R_far (p := ⟨gb903, 1, none⟩) (Kd.R_far (p := ⟨gb903, 0, none⟩) (Kd.R_far (p := ⟨gb902, 1, none⟩) (Kd.R_far (p := ⟨gb902, 0, none⟩) (Kd.R_types (Kd.R_types HO901.out BK902.out (by decide)) BK903.out (by decide)) (fun _ hk => hk.1.2) (.bool t894)) (fun _ hk => hk.1.2) (.slice Ao51 t895.length co51)) (fun _ hk => hk.2) (.bool t898)) (fun _ hk => hk.2) (.slice Ao56 t899.length co56)) (fun _ h_ => h_.1)) (fun _ h_ => h_.1)))); (case side2 => exact (Kd.R_reads' HO901.out).2.1); rintro e w57 ⟨rfl, hb⟩; refine ⟨_, rfl, ?_⟩; have n0_ := Aside0.mk (Kd.R_below (by (with_reducible repeat (first | apply Kd.R_alloc | apply Kd.R_drewN | apply Kd.R_drew)); exact (Kd.R_mono (Kd.R_mono (Kd.R_far (p := ⟨gb903, 1, none⟩) (Kd.R_far (p := ⟨gb903, 0, none⟩) (Kd.R_far (p := ⟨gb902, 1, none⟩) (Kd.R_far (p := ⟨gb902, 0, none⟩) (Kd.R_types (Kd.R_types HO897.out BK902.out (by decide)) BK903.out (by decide)) (fun _ hk => hk.1.2) (.bool t894)) (fun _ hk => hk.1.2) (.slice Ao51 t895.length co51)) (fun _ hk => hk.2) (.bool t898)) (fun _ hk => hk.2) (.slice Ao56 t899.length co56)) (fun _ h_ => h_.1)) (fun _ h_ => h_.1))) hb); have n1_ := Aside0.mk (Kd.R_below (by (with_reducible repeat (first | apply Kd.R_alloc | apply Kd.R_drewN | apply Kd.R_drew)); exact (Kd.R_mono (Kd.R_mono (Kd.R_far (p := ⟨gb903, 1, none⟩) (Kd.R_far (p := ⟨gb903, 0, none⟩) (Kd.R_far (p := ⟨gb902, 1, none⟩) (Kd.R_far (p := ⟨gb902, 0, none⟩) (Kd.R_types (Kd.R_types HO901.out BK902.out (by decide)) BK903.out (by decide)) (fun _ hk => hk.1.2) (.bool t894)) (fun _ hk => hk.1.2) (.slice Ao51 t895.length co51)) (fun _ hk => hk.2) (.bool t898)) (fun _ hk => hk.2) (.slice Ao56 t899.length co56)) (fun _ h_ => h_.1)) (fun _ h_ => h_.1))) hb); have n2_ := Aside0.mk (blk_below (g := gb891) (o := .cells #[.bool n1, .slice An nl.length cn] 31 (0, 0)) (by (with_reducible repeat (first | refine blk_drewN ?_ _ | refine blk_drew ?_ | refine blk_alloc ?_ _)); refine blk_far ?_ NB891_903.out _; (with_reducible repeat (first | refine blk_drewN ?_ _ | refine blk_drew ?_ | refine blk_alloc ?_ _)); refine blk_far ?_ NB891_903.out _; (with_reducible repeat (first | refine blk_drewN ?_ _ | refine blk_drew ?_ | refine blk_alloc ?_ _)); refine blk_far ?_ NB891_902.out _; (with_reducible repeat (first | refine blk_drewN ?_ _ | refine blk_drew ?_ | refine blk_alloc ?_ _)); refine blk_far ?_ NB891_902.out _; (with_reducible repeat (first | refine blk_drewN ?_ _ | refine blk_drew ?_ | refine blk_alloc ?_ _)); exact BK891.out) hb); have n3_ := Aside0.mk (blk_below (g := gb892) (o := .cells #[.bool false, .slice Ad dl.length cd] 31 (0, 0)) (by (with_reducible repeat (first | refine blk_drewN ?_ _ | refine blk_drew ?_ | refine blk_alloc ?_ _)); refine blk_far ?_ NB892_903.out _; (with_reducible repeat (first | refine blk_drewN ?_ _ | refine blk_drew ?_ | refine blk_alloc ?_ _)); refine blk_far ?_ NB892_903.out _; (with_reducible repeat (first | refine blk_drewN ?_ _ | refine blk_drew ?_ | refine blk_alloc ?_ _)); refine blk_far ?_ NB892_902.out _; (with_reducible repeat (first | refine blk_drewN ?_ _ | refine blk_drew ?_ | refine blk_alloc ?_ _)); refine blk_far ?_ NB892_902.out _; (with_reducible repeat (first | refine blk_drewN ?_ _ | refine blk_drew ?_ | refine blk_alloc ?_ _)); exact BK892.out) hb); have n4_ := Aside0.mk (blk_below (g := gb893) (o := .cells #[.bool false, .slice none 0 0] 31 (0, 0)) (by (with_reducible repeat (first | refine blk_drewN ?_ _ | refine blk_drew ?_ | refine blk_alloc ?_ _)); refine blk_far ?_ NB893_903.out _; (with_reducible repeat (first | refine blk_drewN ?_ _ | refine blk_drew ?_ | refine blk_alloc ?_ _)); refine blk_far ?_ NB893_903.out _; (with_reducible repeat (first | refine blk_drewN ?_ _ | refine blk_drew ?_ | refine blk_alloc ?_ _)); refine blk_far ?_ NB893_902.out _; (with_reducible repeat (first | refine blk_drewN ?_ _ | refine blk_drew ?_ | refine blk_alloc ?_ _)); refine blk_far ?_ NB893_902.out _; (with_reducible repeat (first | refine blk_drewN ?_ _ | refine blk_drew ?_ | refine blk_alloc ?_ _)); exact BK893.out) hb); have n5_ := Aside0.mk (blk_below (g := gb902) (o := .cells #[.bool t894, .slice Ao51 t895.length co51] 31 (0, 0)) (by (with_reducible repeat (first | refine blk_drewN ?_ _ | refine blk_drew ?_ | refine blk_alloc ?_ _)); refine blk_far ?_ NB902_903.out _; (with_reducible repeat (first | refine blk_drewN ?_ _ | refine blk_drew ?_ | refine blk_alloc ?_ _)); refine blk_far ?_ NB902_903.out _; (with_reducible repeat (first | refine blk_drewN ?_ _ | refine blk_drew ?_ | refine blk_alloc ?_ _)); refine blk_put (cs := #[.bool t894, .slice none 0 0]) ?_ 1 _ rfl; (with_reducible repeat (first | refine blk_drewN ?_ _ | refine blk_drew ?_ | refine blk_alloc ?_ _)); refine blk_put (cs := #[.bool false, .slice none 0 0]) ?_ 0 _ rfl; (with_reducible repeat (first | refine blk_drewN ?_ _ | refine blk_drew ?_ | refine blk_alloc ?_ _)); exact BK902.out) hb); have n6_ := Aside0.mk (blk_below (g := gb903) (o := .cells #[.bool t898, .slice Ao56 t899.length co56] 31 (0, 0)) (by (with_reducible repeat (first | refine blk_drewN ?_ _ | refine blk_drew ?_ | refine blk_alloc ?_ _)); refine blk_put (cs := #[.bool t898, .slice none 0 0]) ?_ 1 _ rfl; (with_reducible repeat (first | refine blk_drewN ?_ _ | refine blk_drew ?_ | refine blk_alloc ?_ _)); refine blk_put (cs := #[.bool false, .slice none 0 0]) ?_ 0 _ rfl; (with_reducible repeat (first | refine blk_drewN ?_ _ | refine blk_drew ?_ | refine blk_alloc ?_ _)); refine blk_far ?_ NB903_902.out _; (with_reducible repeat (first | refine blk_drewN ?_ _ | refine blk_drew ?_ | refine blk_alloc ?_ _)); refine blk_far ?_ NB903_902.out _; (with_reducible repeat (first | refine blk_drewN ?_ _ | refine blk_drew ?_ | refine blk_alloc ?_ _)); exact BK903.out) hb); have n7_ := Aside0.mk (below_step (q5_ HB.out GE891.out GE892.out GE893.out GE902.out GE903.out) hb); clear HO897; clear HO901; clear BK891; clear BK892; clear BK893; clear BK902; clear BK903; clear HB; have HO897 := n0_; have HO901 := n1_; have BK891 := n2_; have BK892 := n3_; have BK893 := n4_; have BK902 := n5_; have BK903 := n6_; have HB := n7_; clear n0_ n1_ n2_ n3_ n4_ n5_ n6_ n7_; (try clear hb); (try clear hb2); (try clear hk); (try clear hi)))
      have n0_ := Aside0.mk (Kd.R_drew HO897.out)
      have n1_ := Aside0.mk (Kd.R_drew HO901.out)
      have n2_ := Aside0.mk (blk_drew BK891.out)
      have n3_ := Aside0.mk (blk_drew BK892.out)
      have n4_ := Aside0.mk (blk_drew BK893.out)
      have n5_ := Aside0.mk (blk_drew BK902.out)
      have n6_ := Aside0.mk (blk_drew BK903.out)
      have n7_ := Aside0.mk (below_drew1 HB.out)
      clear HO897
      clear HO901
      clear BK891
      clear BK892
      clear BK893
      clear BK902
      clear BK903
      clear HB
      have HO897 := n0_
      have HO901 := n1_
      have BK891 := n2_
      have BK892 := n3_
      have BK893 := n4_
      have BK902 := n5_
      have BK903 := n6_
      have HB := n7_
      clear n0_ n1_ n2_ n3_ n4_ n5_ n6_ n7_
      refine start_ (n := 6) (S := fun w' => w'.cell? ⟨gb903, 0, none⟩ = some (.bool t898) ∧ w'.cell? ⟨gb903, 1, none⟩ = some (.slice Ao56 t899.length co56) ∧ w'.cell? ⟨gb892, 0, none⟩ = some (.bool false) ∧ w'.cell? ⟨gb892, 1, none⟩ = some (.slice Ad dl.length cd)) (ds := []) #[false, false, false, false, false, false] (by kernel_rfl) rfl rfl ⟨(blk_cell BK903.out 0).trans rfl, (blk_cell BK903.out 1).trans rfl, (blk_cell BK892.out 0).trans rfl, (blk_cell BK892.out 1).trans rfl⟩ (fun hHeld => ?_)
      generalize w57.drew = w58 at HO897 HO901 BK891 BK892 BK893 BK902 BK903 HB hHeld ⊢
      refine take_ (i := 0) (N := some 26) (v := ?_) (a' := ?_) #[true, false, false, false, false, false] rfl rfl (by kernel_rfl) (fun _ _ _ h => h) (Or.inl ⟨by rfl, ?_⟩) hHeld ?_ ?_
      rotate_left
      · rintro w' ⟨s0, s1, s2, s3⟩
        go_simp
        with_reducible rfl
      rotate_left
      · simp only [Act.put, List.setIfInBounds_toArray, List.set_cons_zero, List.set_cons_succ, i64_w, i32_w]
        rfl
      refine take_ (i := 1) (N := some 27) (v := ?_) (a' := ?_) #[true, true, false, false, false, false] rfl rfl (by kernel_rfl) (fun _ _ _ h => h) (Or.inl ⟨by rfl, ?_⟩) hHeld ?_ ?_
      rotate_left
      · rintro w' ⟨s0, s1, s2, s3⟩
        go_simp
        with_reducible rfl
      rotate_left
      · simp only [Act.put, List.setIfInBounds_toArray, List.set_cons_zero, List.set_cons_succ, i64_w, i32_w]
        rfl
      refine take_ (i := 3) (N := some 29) (v := ?_) (a' := ?_) #[true, true, false, true, false, false] rfl rfl (by kernel_rfl) (fun _ _ _ h => h) (Or.inl ⟨by rfl, ?_⟩) hHeld ?_ ?_
      rotate_left
      · rintro w' ⟨s0, s1, s2, s3⟩
        go_simp
        with_reducible rfl
      rotate_left
      · simp only [Act.put, List.setIfInBounds_toArray, List.set_cons_zero, List.set_cons_succ, i64_w, i32_w]
        rfl
      refine one_ (i := 2) (N := some 28) #[true, true, true, true, false, false] rfl rfl (by kernel_rfl) (by decide) (fun K hK => ?_)
      refine goes_ Tryd.func84 (by kernel_rfl) rfl #[.agg #[.bool t898, .slice Ao56 t899.length co56], .agg #[.bool t898, .slice Ao56 t899.length co56]] (by rfl) rfl rfl qe_ ?_
      with_reducible refine (merinoref01_Plus.calls k t898 _ _ t899 t898 _ _ t899 t905 t906 _ ?side1 ?side2 ?side3 ?side4 A32.out).mono ?_
      (case side1 => exact qc_ (Kd.R_reads' HO901.out).2.2)
      (case side2 => exact (Kd.R_reads' HO901.out).2.1)
      (case side3 => exact qc_ (Kd.R_reads' HO901.out).2.2)
      (case side4 => exact (Kd.R_reads' HO901.out).2.1)
      rintro e w59 ⟨v907, rfl, ho0, hb⟩
      refine ⟨_, rfl, ?_⟩
      have n0_ := Aside0.mk (Kd.R_elder' (qr_ HO897.out) (Kd.R_base ho0) hb)
      have n1_ := Aside0.mk (Kd.R_elder' (qr_ HO901.out) (Kd.R_base ho0) hb)
      have n2_ := Aside0.mk (Kd.R_lower (Kd.R_new' (Kd.R_new' ho0 (Kd.R_lt (qr_ HO897.out))) (Kd.R_lt (qr_ HO901.out))) (below_size (q5_ HB.out GE891.out GE892.out GE893.out GE902.out GE903.out)))
      have n3_ := Aside0.mk (blk_below (g := gb891) (o := .cells #[.bool n1, .slice An nl.length cn] 31 (0, 0)) (qb_ BK891.out) hb)
      have n4_ := Aside0.mk (blk_below (g := gb892) (o := .cells #[.bool false, .slice Ad dl.length cd] 31 (0, 0)) (qb_ BK892.out) hb)
      have n5_ := Aside0.mk (blk_below (g := gb893) (o := .cells #[.bool false, .slice none 0 0] 31 (0, 0)) (qb_ BK893.out) hb)
      have n6_ := Aside0.mk (blk_below (g := gb902) (o := .cells #[.bool t894, .slice Ao51 t895.length co51] 31 (0, 0)) (qb_ BK902.out) hb)
      have n7_ := Aside0.mk (blk_below (g := gb903) (o := .cells #[.bool t898, .slice Ao56 t899.length co56] 31 (0, 0)) (qb_ BK903.out) hb)
      have n8_ := Aside0.mk (below_step (q5_ HB.out GE891.out GE892.out GE893.out GE902.out GE903.out) hb)
      clear HO897
      clear HO901
      clear BK891
      clear BK892
      clear BK893
      clear BK902
      clear BK903
      clear HB
      have HO897 := n0_
      have HO901 := n1_
      have HO908 := n2_
      have BK891 := n3_
      have BK892 := n4_
      have BK893 := n5_
      have BK902 := n6_
      have BK903 := n7_
      have HB := n8_
      clear n0_ n1_ n2_ n3_ n4_ n5_ n6_ n7_ n8_
      (try clear hb)
      (try clear hb2)
      (try clear hk)
      (try clear hi)
      (try clear ho0)
      obtain ⟨Ao60, co60, eo60⟩ := Kd.R_slice HO908.out
      (first | subst eo60 | (injection eo60 with f1_ f2_ f3_; have f4_ := f1_.symm; have f5_ := f3_.symm; clear f1_ f2_ f3_; subst f4_; subst f5_))
      refine hK.out _ _ ⟨(blk_cell BK903.out 0).trans rfl, (blk_cell BK903.out 1).trans rfl, (blk_cell BK892.out 0).trans rfl, (blk_cell BK892.out 1).trans rfl⟩ (fun hHeld => ?_)
      clear hK K
      refine norm_ (a' := ?_) ?_ ?_
      rotate_left
      · show Act.put _ (some 28) _ = _
        simp only [Act.put, List.setIfInBounds_toArray, List.set_cons_zero, List.set_cons_succ, i64_w, i32_w]
        rfl
      refine one_ (i := 4) (N := some 30) #[true, true, true, true, true, false] rfl rfl (by kernel_rfl) (by decide) (fun K hK => ?_)
      refine goes_ Tryd.func25 (by kernel_rfl) rfl #[.agg #[.bool t905, .slice Ao60 t906.length co60], .agg #[.bool false, .slice Ad dl.length cd]] (by rfl) rfl rfl qe_ ?_
      with_reducible refine (merinoref01_Compare.calls k t905 _ _ t906 false _ _ dl t909 _ ?side1 ?side2 ?side3 ?side4 A33.out).mono ?_
      (case side1 => exact qc_ (Kd.R_reads' HO908.out).2.2)
      (case side2 => exact (Kd.R_reads' HO908.out).2.1)
      (case side3 => exact qc_ (Kd.C_below HR1_1.out HB.out))
      (case side4 => exact HC1_1.out)
      rintro e w61 ⟨rfl, hb⟩
      refine ⟨_, rfl, ?_⟩
      have n0_ := Aside0.mk (Kd.R_below (qr_ HO897.out) hb)
      have n1_ := Aside0.mk (Kd.R_below (qr_ HO901.out) hb)
      have n2_ := Aside0.mk (Kd.R_below (qr_ HO908.out) hb)
      have n3_ := Aside0.mk (blk_below (g := gb891) (o := .cells #[.bool n1, .slice An nl.length cn] 31 (0, 0)) (qb_ BK891.out) hb)
      have n4_ := Aside0.mk (blk_below (g := gb892) (o := .cells #[.bool false, .slice Ad dl.length cd] 31 (0, 0)) (qb_ BK892.out) hb)
      have n5_ := Aside0.mk (blk_below (g := gb893) (o := .cells #[.bool false, .slice none 0 0] 31 (0, 0)) (qb_ BK893.out) hb)
      have n6_ := Aside0.mk (blk_below (g := gb902) (o := .cells #[.bool t894, .slice Ao51 t895.length co51] 31 (0, 0)) (qb_ BK902.out) hb)
      have n7_ := Aside0.mk (blk_below (g := gb903) (o := .cells #[.bool t898, .slice Ao56 t899.length co56] 31 (0, 0)) (qb_ BK903.out) hb)
      have n8_ := Aside0.mk (below_step (q5_ HB.out GE891.out GE892.out GE893.out GE902.out GE903.out) hb)
      clear HO897
      clear HO901
      clear HO908
      clear BK891
      clear BK892
      clear BK893
      clear BK902
      clear BK903
      clear HB
      have HO897 := n0_
      have HO901 := n1_
      have HO908 := n2_
      have BK891 := n3_
      have BK892 := n4_
      have BK893 := n5_
      have BK902 := n6_
      have BK903 := n7_
      have HB := n8_
      clear n0_ n1_ n2_ n3_ n4_ n5_ n6_ n7_ n8_
      (try clear hb)
      (try clear hb2)
      (try clear hk)
      (try clear hi)
      refine hK.out _ _ ⟨(blk_cell BK903.out 0).trans rfl, (blk_cell BK903.out 1).trans rfl, (blk_cell BK892.out 0).trans rfl, (blk_cell BK892.out 1).trans rfl⟩ (fun hHeld => ?_)
      clear hK K
      refine norm_ (a' := ?_) ?_ ?_
      rotate_left
      · show Act.put _ (some 30) _ = _
        simp only [Act.put, List.setIfInBounds_toArray, List.set_cons_zero, List.set_cons_succ, i64_w, i32_w]
        rfl
      refine pure_ (i := 5) (N := some 9) (v := ?_) (a' := ?_) #[true, true, true, true, true, true] rfl rfl (by kernel_rfl) (fun _ _ _ h => h) (Or.inl ⟨by rfl, ?_⟩) ?_ ?_
      rotate_left
      · intro w'
        go_simp
        with_reducible rfl
      rotate_left
      · simp only [Act.put, List.setIfInBounds_toArray, List.set_cons_zero, List.set_cons_succ, i64_w, i32_w]
        rfl
      refine done_ (by kernel_rfl) ?_
      go_upto_block 0 with (fail)
      go_cut [10] (fun v10 wc => ∃ (kq : Nat) (x10_33 : Bool), v10 = .bool x10_33 ∧ Aside0 (merinoref01_Rounded.j0 kq x10_33 t894 t895 = some (r1, r2)) ∧ Aside0 (kq ≤ k) ∧ Aside0 (Kd.R (Kd.int .i64) 3 wc wb.heap.size (fun k_ => some k_ ≠ ((.slice Ao56 t899.length co56) : Value).ownBlock) (.slice Ao51 t895.length co51) t895) ∧ Aside0 (Kd.R (Kd.int .i64) 3 wc wb.heap.size (fun k_ => some k_ ≠ ((.slice Ao51 t895.length co51) : Value).ownBlock) (.slice Ao56 t899.length co56) t899) ∧ Aside0 (wc.heap[gb891]? = some (.cells #[.bool n1, (.slice An nl.length cn)] 31 (0, 0))) ∧ Aside0 (wc.heap[gb892]? = some (.cells #[.bool false, (.slice Ad dl.length cd)] 31 (0, 0))) ∧ Aside0 (wc.heap[gb893]? = some (.cells #[.bool false, (.slice none 0 0)] 31 (0, 0))) ∧ Aside0 (wc.heap[gb902]? = some (.cells #[.bool t894, (.slice Ao51 t895.length co51)] 31 (0, 0))) ∧ Aside0 (wc.heap[gb903]? = some (.cells #[.bool t898, (.slice Ao56 t899.length co56)] 31 (0, 0))) ∧ Aside0 (Below wb.heap.size wb wc))
      case first =>
        have H := HC34.out
        clear HC34
        by_cases c62 : a2 = 1
        · rw [if_pos c62] at H
          have c62b0 : (a2 == 1) = true := beq_iff_eq.mpr c62
          have c62b1 : (a2 != 1) = false := bne_eq_false_iff_eq.mpr c62
          clear c62
          (first | rw [c62b0] | (simp only [i64_w, i32_w]; rw [c62b0]) | skip)
          have H' := Aside0.mk H
          clear H
          go_wp2
          go_meet
          case rel => exact ⟨_, (true), (by first | rfl | (simp; done) | (simp [*]; done)), H', ⟨by first | omega | exact Nat.le_refl _⟩, ⟨by (with_reducible repeat (first | apply Kd.R_alloc | apply Kd.R_drewN | apply Kd.R_drew)); exact Kd.R_mono HO897.out (fun _ hk => hk.1)⟩, ⟨by (with_reducible repeat (first | apply Kd.R_alloc | apply Kd.R_drewN | apply Kd.R_drew)); exact Kd.R_mono HO901.out (fun _ hk => hk.1)⟩, ⟨by (with_reducible repeat (first | refine blk_drewN ?_ _ | refine blk_drew ?_ | refine blk_alloc ?_ _)); exact BK891.out⟩, ⟨by (with_reducible repeat (first | refine blk_drewN ?_ _ | refine blk_drew ?_ | refine blk_alloc ?_ _)); exact BK892.out⟩, ⟨by (with_reducible repeat (first | refine blk_drewN ?_ _ | refine blk_drew ?_ | refine blk_alloc ?_ _)); exact BK893.out⟩, ⟨by (with_reducible repeat (first | refine blk_drewN ?_ _ | refine blk_drew ?_ | refine blk_alloc ?_ _)); exact BK902.out⟩, ⟨by (with_reducible repeat (first | refine blk_drewN ?_ _ | refine blk_drew ?_ | refine blk_alloc ?_ _)); exact BK903.out⟩, ⟨(q5_ HB.out GE891.out GE892.out GE893.out GE902.out GE903.out)⟩⟩
        · rw [if_neg c62] at H
          have c62b0 : (a2 == 1) = false := beq_eq_false_iff_ne.mpr c62
          have c62b1 : (a2 != 1) = true := bne_iff_ne.mpr c62
          (first | rw [c62b0] | (simp only [i64_w, i32_w]; rw [c62b0]) | skip)
          by_cases c63 : a2 = 2
          · rw [if_pos c63] at H
            have c63b0 : (a2 == 2) = true := beq_iff_eq.mpr c63
            have c63b1 : (a2 != 2) = false := bne_eq_false_iff_eq.mpr c63
            clear c63
            have H' := Aside0.mk H
            clear H
            have hnb64 := NB891_892.out
            have hnc64 := NB892_891.out
            have hnb65 := NB891_893.out
            have hnc65 := NB893_891.out
            have hnb66 := NB891_902.out
            have hnc66 := NB902_891.out
            have hnb67 := NB891_903.out
            have hnc67 := NB903_891.out
            have hcz68_0 : w61.cell? ⟨gb891, 0, none⟩ = some (.bool n1) := (blk_cell BK891.out 0).trans rfl
            have hcz68_1 : w61.cell? ⟨gb891, 1, none⟩ = some (.slice An nl.length cn) := (blk_cell BK891.out 1).trans rfl
            have hfz68_0 := blk_frozen BK891.out 0
            have hfz68_1 := blk_frozen BK891.out 1
            go_wp2
            go_meet
            case rel => exact ⟨_, (n1), (by first | rfl | (simp; done) | (simp [*]; done)), H', ⟨by first | omega | exact Nat.le_refl _⟩, ⟨by (with_reducible repeat (first | apply Kd.R_alloc | apply Kd.R_drewN | apply Kd.R_drew)); exact Kd.R_mono HO897.out (fun _ hk => hk.1)⟩, ⟨by (with_reducible repeat (first | apply Kd.R_alloc | apply Kd.R_drewN | apply Kd.R_drew)); exact Kd.R_mono HO901.out (fun _ hk => hk.1)⟩, ⟨by (with_reducible repeat (first | refine blk_drewN ?_ _ | refine blk_drew ?_ | refine blk_alloc ?_ _)); exact BK891.out⟩, ⟨by (with_reducible repeat (first | refine blk_drewN ?_ _ | refine blk_drew ?_ | refine blk_alloc ?_ _)); exact BK892.out⟩, ⟨by (with_reducible repeat (first | refine blk_drewN ?_ _ | refine blk_drew ?_ | refine blk_alloc ?_ _)); exact BK893.out⟩, ⟨by (with_reducible repeat (first | refine blk_drewN ?_ _ | refine blk_drew ?_ | refine blk_alloc ?_ _)); exact BK902.out⟩, ⟨by (with_reducible repeat (first | refine blk_drewN ?_ _ | refine blk_drew ?_ | refine blk_alloc ?_ _)); exact BK903.out⟩, ⟨(q5_ HB.out GE891.out GE892.out GE893.out GE902.out GE903.out)⟩⟩
          · rw [if_neg c63] at H
            have c63b0 : (a2 == 2) = false := beq_eq_false_iff_ne.mpr c63
            have c63b1 : (a2 != 2) = true := bne_iff_ne.mpr c63
            by_cases c69 : a2 = 3
            · rw [if_pos c69] at H
              have c69b0 : (a2 == 3) = true := beq_iff_eq.mpr c69
              have c69b1 : (a2 != 3) = false := bne_eq_false_iff_eq.mpr c69
              clear c69
              have H' := Aside0.mk H
              clear H
              go_wp2
              go_meet
              case rel => exact ⟨_, (decide (t909 ≥ 0)), (by first | rfl | (simp; done) | (simp [*]; done)), H', ⟨by first | omega | exact Nat.le_refl _⟩, ⟨by (with_reducible repeat (first | apply Kd.R_alloc | apply Kd.R_drewN | apply Kd.R_drew)); exact Kd.R_mono HO897.out (fun _ hk => hk.1)⟩, ⟨by (with_reducible repeat (first | apply Kd.R_alloc | apply Kd.R_drewN | apply Kd.R_drew)); exact Kd.R_mono HO901.out (fun _ hk => hk.1)⟩, ⟨by (with_reducible repeat (first | refine blk_drewN ?_ _ | refine blk_drew ?_ | refine blk_alloc ?_ _)); exact BK891.out⟩, ⟨by (with_reducible repeat (first | refine blk_drewN ?_ _ | refine blk_drew ?_ | refine blk_alloc ?_ _)); exact BK892.out⟩, ⟨by (with_reducible repeat (first | refine blk_drewN ?_ _ | refine blk_drew ?_ | refine blk_alloc ?_ _)); exact BK893.out⟩, ⟨by (with_reducible repeat (first | refine blk_drewN ?_ _ | refine blk_drew ?_ | refine blk_alloc ?_ _)); exact BK902.out⟩, ⟨by (with_reducible repeat (first | refine blk_drewN ?_ _ | refine blk_drew ?_ | refine blk_alloc ?_ _)); exact BK903.out⟩, ⟨(q5_ HB.out GE891.out GE892.out GE893.out GE902.out GE903.out)⟩⟩
            · rw [if_neg c69] at H
              have c69b0 : (a2 == 3) = false := beq_eq_false_iff_ne.mpr c69
              have c69b1 : (a2 != 3) = true := bne_iff_ne.mpr c69
              by_cases c70 : a2 = 4
              · rw [if_pos c70] at H
                have c70b0 : (a2 == 4) = true := beq_iff_eq.mpr c70
                have c70b1 : (a2 != 4) = false := bne_eq_false_iff_eq.mpr c70
                clear c70
                by_cases c71 : t909 > 0
                · rw [if_pos c71] at H
                  have c71b0 : decide (0 < t909) = true := decide_eq_true c71
                  clear c71
                  have H' := Aside0.mk H
                  clear H
                  go_wp2
                  go_meet
                  case rel => exact ⟨_, (true), (by first | rfl | (simp; done) | (simp [*]; done)), H', ⟨by first | omega | exact Nat.le_refl _⟩, ⟨by (with_reducible repeat (first | apply Kd.R_alloc | apply Kd.R_drewN | apply Kd.R_drew)); exact Kd.R_mono HO897.out (fun _ hk => hk.1)⟩, ⟨by (with_reducible repeat (first | apply Kd.R_alloc | apply Kd.R_drewN | apply Kd.R_drew)); exact Kd.R_mono HO901.out (fun _ hk => hk.1)⟩, ⟨by (with_reducible repeat (first | refine blk_drewN ?_ _ | refine blk_drew ?_ | refine blk_alloc ?_ _)); exact BK891.out⟩, ⟨by (with_reducible repeat (first | refine blk_drewN ?_ _ | refine blk_drew ?_ | refine blk_alloc ?_ _)); exact BK892.out⟩, ⟨by (with_reducible repeat (first | refine blk_drewN ?_ _ | refine blk_drew ?_ | refine blk_alloc ?_ _)); exact BK893.out⟩, ⟨by (with_reducible repeat (first | refine blk_drewN ?_ _ | refine blk_drew ?_ | refine blk_alloc ?_ _)); exact BK902.out⟩, ⟨by (with_reducible repeat (first | refine blk_drewN ?_ _ | refine blk_drew ?_ | refine blk_alloc ?_ _)); exact BK903.out⟩, ⟨(q5_ HB.out GE891.out GE892.out GE893.out GE902.out GE903.out)⟩⟩
                · rw [if_neg c71] at H
                  have c71b0 : decide (0 < t909) = false := decide_eq_false c71
                  clear c71
                  by_cases c72 : t909 = 0
                  · rw [if_pos c72] at H
                    have c72b0 : (t909 == 0) = true := beq_iff_eq.mpr c72
                    have c72b1 : (t909 != 0) = false := bne_eq_false_iff_eq.mpr c72
                    clear c72
                    by_cases c73 : (t895.length : Int) > 0
                    · rw [if_pos c73] at H
                      have c73b0 : decide (0 < (t895.length : Int)) = true := decide_eq_true c73
                      have c73b1 : decide (0 < t895.length) = true := decide_eq_true (by omega)
                      clear c73
                      by_cases c74 : 0 < (t895.length : Int)
                      · rw [if_pos c74] at H
                        have c74b0 : decide (0 < (t895.length : Int)) = true := decide_eq_true c74
                        have c74b1 : decide (0 < t895.length) = true := decide_eq_true (by omega)
                        clear c74
                        have H' := Aside0.mk H
                        clear H
                        have hnb75 := NB902_891.out
                        have hnc75 := NB891_902.out
                        have hnb76 := NB902_892.out
                        have hnc76 := NB892_902.out
                        have hnb77 := NB902_893.out
                        have hnc77 := NB893_902.out
                        have hnb78 := NB902_903.out
                        have hnc78 := NB903_902.out
                        have hcz79_0 : w61.cell? ⟨gb902, 0, none⟩ = some (.bool t894) := (blk_cell BK902.out 0).trans rfl
                        have hcz79_1 : w61.cell? ⟨gb902, 1, none⟩ = some (.slice Ao51 t895.length co51) := (blk_cell BK902.out 1).trans rfl
                        have hfz79_0 := blk_frozen BK902.out 0
                        have hfz79_1 := blk_frozen BK902.out 1
                        have p910 : 0 ≤ (0 : Int) := (by omega)
                        have q910 : 0 < (t895.length : Int) := of_decide_eq_true (by first | (with_reducible assumption) | assumption)
                        obtain ⟨ad910, e910, hx910_0⟩ := Kd.at_int (Kd.R_reads' HO897.out).2.2 0 p910 q910
                        cases e910
                        have qi910 : (0 < t895.length) = True := eq_true (by omega)
                        (try rw [show ((0 : Int)).toNat = 0 from rfl] at hx910_0)
                        (try rw [Addr.add_zero'] at hx910_0)
                        replace p910 := eq_true p910
                        replace q910 := eq_true q910
                        go_wp2
                        go_meet
                        case rel => exact ⟨_, (((Int.tmod (rd t895 0) 2) == 1)), (by first | rfl | (simp; done) | (simp [*]; done)), H', ⟨by first | omega | exact Nat.le_refl _⟩, ⟨by (with_reducible repeat (first | apply Kd.R_alloc | apply Kd.R_drewN | apply Kd.R_drew)); exact Kd.R_mono HO897.out (fun _ hk => hk.1)⟩, ⟨by (with_reducible repeat (first | apply Kd.R_alloc | apply Kd.R_drewN | apply Kd.R_drew)); exact Kd.R_mono HO901.out (fun _ hk => hk.1)⟩, ⟨by (with_reducible repeat (first | refine blk_drewN ?_ _ | refine blk_drew ?_ | refine blk_alloc ?_ _)); exact BK891.out⟩, ⟨by (with_reducible repeat (first | refine blk_drewN ?_ _ | refine blk_drew ?_ | refine blk_alloc ?_ _)); exact BK892.out⟩, ⟨by (with_reducible repeat (first | refine blk_drewN ?_ _ | refine blk_drew ?_ | refine blk_alloc ?_ _)); exact BK893.out⟩, ⟨by (with_reducible repeat (first | refine blk_drewN ?_ _ | refine blk_drew ?_ | refine blk_alloc ?_ _)); exact BK902.out⟩, ⟨by (with_reducible repeat (first | refine blk_drewN ?_ _ | refine blk_drew ?_ | refine blk_alloc ?_ _)); exact BK903.out⟩, ⟨(q5_ HB.out GE891.out GE892.out GE893.out GE902.out GE903.out)⟩⟩
                      · rw [if_neg c74] at H
                        exact absurd H (by simp)
                    · rw [if_neg c73] at H
                      have c73b0 : decide (0 < (t895.length : Int)) = false := decide_eq_false c73
                      have c73b1 : decide (0 < t895.length) = false := decide_eq_false (by omega)
                      clear c73
                      have H' := Aside0.mk H
                      clear H
                      have hnb80 := NB902_891.out
                      have hnc80 := NB891_902.out
                      have hnb81 := NB902_892.out
                      have hnc81 := NB892_902.out
                      have hnb82 := NB902_893.out
                      have hnc82 := NB893_902.out
                      have hnb83 := NB902_903.out
                      have hnc83 := NB903_902.out
                      have hcz84_0 : w61.cell? ⟨gb902, 0, none⟩ = some (.bool t894) := (blk_cell BK902.out 0).trans rfl
                      have hcz84_1 : w61.cell? ⟨gb902, 1, none⟩ = some (.slice Ao51 t895.length co51) := (blk_cell BK902.out 1).trans rfl
                      have hfz84_0 := blk_frozen BK902.out 0
                      have hfz84_1 := blk_frozen BK902.out 1
                      go_wp2
                      go_meet
                      case rel => exact ⟨_, (false), (by first | rfl | (simp; done) | (simp [*]; done)), H', ⟨by first | omega | exact Nat.le_refl _⟩, ⟨by (with_reducible repeat (first | apply Kd.R_alloc | apply Kd.R_drewN | apply Kd.R_drew)); exact Kd.R_mono HO897.out (fun _ hk => hk.1)⟩, ⟨by (with_reducible repeat (first | apply Kd.R_alloc | apply Kd.R_drewN | apply Kd.R_drew)); exact Kd.R_mono HO901.out (fun _ hk => hk.1)⟩, ⟨by (with_reducible repeat (first | refine blk_drewN ?_ _ | refine blk_drew ?_ | refine blk_alloc ?_ _)); exact BK891.out⟩, ⟨by (with_reducible repeat (first | refine blk_drewN ?_ _ | refine blk_drew ?_ | refine blk_alloc ?_ _)); exact BK892.out⟩, ⟨by (with_reducible repeat (first | refine blk_drewN ?_ _ | refine blk_drew ?_ | refine blk_alloc ?_ _)); exact BK893.out⟩, ⟨by (with_reducible repeat (first | refine blk_drewN ?_ _ | refine blk_drew ?_ | refine blk_alloc ?_ _)); exact BK902.out⟩, ⟨by (with_reducible repeat (first | refine blk_drewN ?_ _ | refine blk_drew ?_ | refine blk_alloc ?_ _)); exact BK903.out⟩, ⟨(q5_ HB.out GE891.out GE892.out GE893.out GE902.out GE903.out)⟩⟩
                  · rw [if_neg c72] at H
                    have c72b0 : (t909 == 0) = false := beq_eq_false_iff_ne.mpr c72
                    have c72b1 : (t909 != 0) = true := bne_iff_ne.mpr c72
                    have H' := Aside0.mk H
                    clear H
                    go_wp2
                    go_meet
                    case rel => exact ⟨_, (false), (by first | rfl | (simp; done) | (simp [*]; done)), H', ⟨by first | omega | exact Nat.le_refl _⟩, ⟨by (with_reducible repeat (first | apply Kd.R_alloc | apply Kd.R_drewN | apply Kd.R_drew)); exact Kd.R_mono HO897.out (fun _ hk => hk.1)⟩, ⟨by (with_reducible repeat (first | apply Kd.R_alloc | apply Kd.R_drewN | apply Kd.R_drew)); exact Kd.R_mono HO901.out (fun _ hk => hk.1)⟩, ⟨by (with_reducible repeat (first | refine blk_drewN ?_ _ | refine blk_drew ?_ | refine blk_alloc ?_ _)); exact BK891.out⟩, ⟨by (with_reducible repeat (first | refine blk_drewN ?_ _ | refine blk_drew ?_ | refine blk_alloc ?_ _)); exact BK892.out⟩, ⟨by (with_reducible repeat (first | refine blk_drewN ?_ _ | refine blk_drew ?_ | refine blk_alloc ?_ _)); exact BK893.out⟩, ⟨by (with_reducible repeat (first | refine blk_drewN ?_ _ | refine blk_drew ?_ | refine blk_alloc ?_ _)); exact BK902.out⟩, ⟨by (with_reducible repeat (first | refine blk_drewN ?_ _ | refine blk_drew ?_ | refine blk_alloc ?_ _)); exact BK903.out⟩, ⟨(q5_ HB.out GE891.out GE892.out GE893.out GE902.out GE903.out)⟩⟩
              · rw [if_neg c70] at H
                have c70b0 : (a2 == 4) = false := beq_eq_false_iff_ne.mpr c70
                have c70b1 : (a2 != 4) = true := bne_iff_ne.mpr c70
                have H' := Aside0.mk H
                clear H
                go_wp2
                go_meet
                case rel => exact ⟨_, (false), (by first | rfl | (simp; done) | (simp [*]; done)), H', ⟨by first | omega | exact Nat.le_refl _⟩, ⟨by (with_reducible repeat (first | apply Kd.R_alloc | apply Kd.R_drewN | apply Kd.R_drew)); exact Kd.R_mono HO897.out (fun _ hk => hk.1)⟩, ⟨by (with_reducible repeat (first | apply Kd.R_alloc | apply Kd.R_drewN | apply Kd.R_drew)); exact Kd.R_mono HO901.out (fun _ hk => hk.1)⟩, ⟨by (with_reducible repeat (first | refine blk_drewN ?_ _ | refine blk_drew ?_ | refine blk_alloc ?_ _)); exact BK891.out⟩, ⟨by (with_reducible repeat (first | refine blk_drewN ?_ _ | refine blk_drew ?_ | refine blk_alloc ?_ _)); exact BK892.out⟩, ⟨by (with_reducible repeat (first | refine blk_drewN ?_ _ | refine blk_drew ?_ | refine blk_alloc ?_ _)); exact BK893.out⟩, ⟨by (with_reducible repeat (first | refine blk_drewN ?_ _ | refine blk_drew ?_ | refine blk_alloc ?_ _)); exact BK902.out⟩, ⟨by (with_reducible repeat (first | refine blk_drewN ?_ _ | refine blk_drew ?_ | refine blk_alloc ?_ _)); exact BK903.out⟩, ⟨(q5_ HB.out GE891.out GE892.out GE893.out GE902.out GE903.out)⟩⟩
      case rest =>
        clear HC34
        try clear c1
        try clear c2
        try clear p2
        try clear c3
        try clear c4
        try clear c5
        try clear c6
        try clear c7
        try clear c8
        try clear c9
        try clear p9
        try clear q9
        try clear hx9
        try clear qi9
        try clear c10
        try clear c11
        try clear c13
        try clear c18
        try clear c19
        try clear c20
        try clear c21
        try clear c24
        try clear c25
        try clear c26
        try clear c38
        try clear c39
        try clear c41
        try clear c46
        try clear c47
        try clear c48
        try clear c49
        try clear c52
        try clear c53
        try clear c54
        try clear c62
        try clear c62b0
        try clear c62b1
        try clear c63
        try clear c63b0
        try clear c63b1
        try clear c64
        try clear c65
        try clear c66
        try clear c67
        try clear c69
        try clear c69b0
        try clear c69b1
        try clear c70
        try clear c70b0
        try clear c70b1
        try clear c71
        try clear c71b0
        try clear c72
        try clear c72b0
        try clear c72b1
        try clear c73
        try clear c73b0
        try clear c73b1
        try clear c74
        try clear c74b0
        try clear c74b1
        try clear c75
        try clear c76
        try clear c77
        try clear c78
        try clear c80
        try clear c81
        try clear c82
        try clear c83
        try clear c84
        try clear hcz12_0
        try clear hcz12_1
        try clear hcz14_0
        try clear hcz14_1
        try clear hcz22_0
        try clear hcz22_1
        try clear hcz27_0
        try clear hcz27_1
        try clear hcz30_0
        try clear hcz30_1
        try clear hcz31_0
        try clear hcz31_1
        try clear hcz40_0
        try clear hcz40_1
        try clear hcz42_0
        try clear hcz42_1
        try clear hcz50_0
        try clear hcz50_1
        try clear hcz55_0
        try clear hcz55_1
        try clear hcz68_0
        try clear hcz68_1
        try clear hcz79_0
        try clear hcz79_1
        try clear hcz84_0
        try clear hcz84_1
        try clear hfz12_0
        try clear hfz12_1
        try clear hfz14_0
        try clear hfz14_1
        try clear hfz22_0
        try clear hfz22_1
        try clear hfz27_0
        try clear hfz27_1
        try clear hfz30_0
        try clear hfz30_1
        try clear hfz31_0
        try clear hfz31_1
        try clear hfz40_0
        try clear hfz40_1
        try clear hfz42_0
        try clear hfz42_1
        try clear hfz50_0
        try clear hfz50_1
        try clear hfz55_0
        try clear hfz55_1
        try clear hfz68_0
        try clear hfz68_1
        try clear hfz79_0
        try clear hfz79_1
        try clear hfz84_0
        try clear hfz84_1
        try clear hx910_0
        try clear p910
        try clear q910
        obtain ⟨kq, x10_33, rfl, HA, HJ33, HO_903001, HO_904001, BK891, BK892, BK893, BK902, BK903, HB⟩ := hcut
        cases kq with
        | zero => exact absurd HA.out (by simp [merinoref01_Rounded.j0])
        | succ kj33 =>
          have H := HA.out
          clear HA
          simp only [merinoref01_Rounded.j0] at H
          by_cases c85 : x10_33 = true
          · subst c85
            have H1 : ((merinoref01_Of.f kj33 1).bind fun bt911 => ((merinoref01_Plus.f kj33 t894 t895 bt911.1 bt911.2).bind fun bt915 => (some (bt915.1, bt915.2)))) = some (r1, r2) := by rw [if_pos rfl] at H; exact H
            clear H
            have H := H1
            clear H1
            replace H := Option.bind_eq_some_iff.mp H
            obtain ⟨⟨t911, t912⟩, A860, H⟩ := H
            replace H : ((merinoref01_Plus.f kj33 t894 t895 t911 t912).bind fun bt915 => (some (bt915.1, bt915.2))) = some (r1, r2) := H
            have A86 := Aside0.mk A860
            clear A860
            replace H := Option.bind_eq_some_iff.mp H
            obtain ⟨⟨t915, t916⟩, A870, H⟩ := H
            replace H : (some (t915, t916)) = some (r1, r2) := H
            have A87 := Aside0.mk A870
            clear A870
            simp only [Option.some.injEq, Prod.mk.injEq] at H
            obtain ⟨rfl, rfl⟩ := H
            try go_wp2
            have n0_ := Aside0.mk (Kd.R_drew HO_903001.out)
            have n1_ := Aside0.mk (Kd.R_drew HO_904001.out)
            have n2_ := Aside0.mk (blk_drew BK891.out)
            have n3_ := Aside0.mk (blk_drew BK892.out)
            have n4_ := Aside0.mk (blk_drew BK893.out)
            have n5_ := Aside0.mk (blk_drew BK902.out)
            have n6_ := Aside0.mk (blk_drew BK903.out)
            have n7_ := Aside0.mk (below_drew1 HB.out)
            clear HO_903001
            clear HO_904001
            clear BK891
            clear BK892
            clear BK893
            clear BK902
            clear BK903
            clear HB
            have HO_903001 := n0_
            have HO_904001 := n1_
            have BK891 := n2_
            have BK892 := n3_
            have BK893 := n4_
            have BK902 := n5_
            have BK903 := n6_
            have HB := n7_
            clear n0_ n1_ n2_ n3_ n4_ n5_ n6_ n7_
            refine start_ (n := 4) (S := fun w' => w'.cell? ⟨gb902, 0, none⟩ = some (.bool t894) ∧ w'.cell? ⟨gb902, 1, none⟩ = some (.slice Ao51 t895.length co51)) (ds := [3]) #[false, false, false, false] (by kernel_rfl) rfl rfl ⟨(blk_cell BK902.out 0).trans rfl, (blk_cell BK902.out 1).trans rfl⟩ (fun hHeld => ?_)
            generalize wc.drew = w88 at HO_903001 HO_904001 BK891 BK892 BK893 BK902 BK903 HB hHeld ⊢
            refine take_ (i := 0) (N := some 65) (v := ?_) (a' := ?_) #[true, false, false, false] rfl rfl (by kernel_rfl) (fun _ _ _ h => h) (Or.inl ⟨by rfl, ?_⟩) hHeld ?_ ?_
            rotate_left
            · rintro w' ⟨s0, s1⟩
              go_simp
              with_reducible rfl
            rotate_left
            · simp only [Act.put, List.setIfInBounds_toArray, List.set_cons_zero, List.set_cons_succ, i64_w, i32_w]
              rfl
            refine one_ (i := 1) (N := some 66) #[true, true, false, false] rfl rfl (by kernel_rfl) (by decide) (fun K hK => ?_)
            refine goes_ Tryd.func24 (by kernel_rfl) rfl #[.int .i64 1] (by rfl) rfl rfl qe_ ?_
            with_reducible refine (merinoref01_Of.calls kj33 1 t911 t912 _ A86.out).mono ?_
            rintro e w89 ⟨v913, rfl, ho0, hb⟩
            refine ⟨_, rfl, ?_⟩
            have n0_ := Aside0.mk (Kd.R_elder' (qr_ HO_903001.out) (Kd.R_base ho0) hb)
            have n1_ := Aside0.mk (Kd.R_elder' (qr_ HO_904001.out) (Kd.R_base ho0) hb)
            have n2_ := Aside0.mk (Kd.R_lower (Kd.R_new' (Kd.R_new' ho0 (Kd.R_lt (qr_ HO_903001.out))) (Kd.R_lt (qr_ HO_904001.out))) (below_size (q5_ HB.out GE891.out GE892.out GE893.out GE902.out GE903.out)))
            have n3_ := Aside0.mk (blk_below (g := gb891) (o := .cells #[.bool n1, .slice An nl.length cn] 31 (0, 0)) (qb_ BK891.out) hb)
            have n4_ := Aside0.mk (blk_below (g := gb892) (o := .cells #[.bool false, .slice Ad dl.length cd] 31 (0, 0)) (qb_ BK892.out) hb)
            have n5_ := Aside0.mk (blk_below (g := gb893) (o := .cells #[.bool false, .slice none 0 0] 31 (0, 0)) (qb_ BK893.out) hb)
            have n6_ := Aside0.mk (blk_below (g := gb902) (o := .cells #[.bool t894, .slice Ao51 t895.length co51] 31 (0, 0)) (qb_ BK902.out) hb)
            have n7_ := Aside0.mk (blk_below (g := gb903) (o := .cells #[.bool t898, .slice Ao56 t899.length co56] 31 (0, 0)) (qb_ BK903.out) hb)
            have n8_ := Aside0.mk (below_step (q5_ HB.out GE891.out GE892.out GE893.out GE902.out GE903.out) hb)
            clear HO_903001
            clear HO_904001
            clear BK891
            clear BK892
            clear BK893
            clear BK902
            clear BK903
            clear HB
            have HO_903001 := n0_
            have HO_904001 := n1_
            have HO914 := n2_
            have BK891 := n3_
            have BK892 := n4_
            have BK893 := n5_
            have BK902 := n6_
            have BK903 := n7_
            have HB := n8_
            clear n0_ n1_ n2_ n3_ n4_ n5_ n6_ n7_ n8_
            (try clear hb)
            (try clear hb2)
            (try clear hk)
            (try clear hi)
            (try clear ho0)
            obtain ⟨Ao90, co90, eo90⟩ := Kd.R_slice HO914.out
            (first | subst eo90 | (injection eo90 with f1_ f2_ f3_; have f4_ := f1_.symm; have f5_ := f3_.symm; clear f1_ f2_ f3_; subst f4_; subst f5_))
            refine hK.out _ _ ⟨(blk_cell BK902.out 0).trans rfl, (blk_cell BK902.out 1).trans rfl⟩ (fun hHeld => ?_)
            clear hK K
            refine norm_ (a' := ?_) ?_ ?_
            rotate_left
            · show Act.put _ (some 66) _ = _
              simp only [Act.put, List.setIfInBounds_toArray, List.set_cons_zero, List.set_cons_succ, i64_w, i32_w]
              rfl
            refine one_ (i := 2) (N := some 67) #[true, true, true, false] rfl rfl (by kernel_rfl) (by decide) (fun K hK => ?_)
            refine goes_ Tryd.func84 (by kernel_rfl) rfl #[.agg #[.bool t894, .slice Ao51 t895.length co51], .agg #[.bool t911, .slice Ao90 t912.length co90]] (by rfl) rfl rfl qe_ ?_
            with_reducible refine (merinoref01_Plus.calls kj33 t894 _ _ t895 t911 _ _ t912 t915 t916 _ ?side1 ?side2 ?side3 ?side4 A87.out).mono ?_
            (case side1 => exact qc_ (Kd.R_reads' HO_903001.out).2.2)
            (case side2 => exact (Kd.R_reads' HO_903001.out).2.1)
            (case side3 => exact qc_ (Kd.R_reads' HO914.out).2.2)
            (case side4 => exact (Kd.R_reads' HO914.out).2.1)
            rintro e w91 ⟨v917, rfl, ho0, hb⟩
            refine ⟨_, rfl, ?_⟩
            have n0_ := Aside0.mk (Kd.R_elder' (qr_ HO_903001.out) (Kd.R_base ho0) hb)
            have n1_ := Aside0.mk (Kd.R_elder' (qr_ HO_904001.out) (Kd.R_base ho0) hb)
            have n2_ := Aside0.mk (Kd.R_elder' (qr_ HO914.out) (Kd.R_base ho0) hb)
            have n3_ := Aside0.mk (Kd.R_lower (Kd.R_new' (Kd.R_new' (Kd.R_new' ho0 (Kd.R_lt (qr_ HO_903001.out))) (Kd.R_lt (qr_ HO_904001.out))) (Kd.R_lt (qr_ HO914.out))) (below_size (q5_ HB.out GE891.out GE892.out GE893.out GE902.out GE903.out)))
            have n4_ := Aside0.mk (blk_below (g := gb891) (o := .cells #[.bool n1, .slice An nl.length cn] 31 (0, 0)) (qb_ BK891.out) hb)
            have n5_ := Aside0.mk (blk_below (g := gb892) (o := .cells #[.bool false, .slice Ad dl.length cd] 31 (0, 0)) (qb_ BK892.out) hb)
            have n6_ := Aside0.mk (blk_below (g := gb893) (o := .cells #[.bool false, .slice none 0 0] 31 (0, 0)) (qb_ BK893.out) hb)
            have n7_ := Aside0.mk (blk_below (g := gb902) (o := .cells #[.bool t894, .slice Ao51 t895.length co51] 31 (0, 0)) (qb_ BK902.out) hb)
            have n8_ := Aside0.mk (blk_below (g := gb903) (o := .cells #[.bool t898, .slice Ao56 t899.length co56] 31 (0, 0)) (qb_ BK903.out) hb)
            have n9_ := Aside0.mk (below_step (q5_ HB.out GE891.out GE892.out GE893.out GE902.out GE903.out) hb)
            clear HO_903001
            clear HO_904001
            clear HO914
            clear BK891
            clear BK892
            clear BK893
            clear BK902
            clear BK903
            clear HB
            have HO_903001 := n0_
            have HO_904001 := n1_
            have HO914 := n2_
            have HO918 := n3_
            have BK891 := n4_
            have BK892 := n5_
            have BK893 := n6_
            have BK902 := n7_
            have BK903 := n8_
            have HB := n9_
            clear n0_ n1_ n2_ n3_ n4_ n5_ n6_ n7_ n8_ n9_
            (try clear hb)
            (try clear hb2)
            (try clear hk)
            (try clear hi)
            (try clear ho0)
            obtain ⟨Ao93, co93, eo93⟩ := Kd.R_slice HO918.out
            (first | subst eo93 | (injection eo93 with f1_ f2_ f3_; have f4_ := f1_.symm; have f5_ := f3_.symm; clear f1_ f2_ f3_; subst f4_; subst f5_))
            refine hK.out _ _ ⟨(blk_cell BK902.out 0).trans rfl, (blk_cell BK902.out 1).trans rfl⟩ (fun hHeld => ?_)
            clear hK K
            refine norm_ (a' := ?_) ?_ ?_
            rotate_left
            · show Act.put _ (some 67) _ = _
              simp only [Act.put, List.setIfInBounds_toArray, List.set_cons_zero, List.set_cons_succ, i64_w, i32_w]
              rfl
            refine last_ (i := 3) (N := none) #[true, true, true, true] rfl rfl (by kernel_rfl) (by decide) (fun K hK => ?_)
            have hs92 : w91.cell? ⟨gb902, 0, none⟩ = some (.bool t894) := (blk_cell BK902.out 0).trans rfl
            have hfs92 := blk_frozen BK902.out 0
            have hns92_0 := NB891_902.out
            have hns92_1 := NB892_902.out
            have hns92_2 := NB893_902.out
            have hns92_4 := NB903_902.out
            have hms92_0 := NB902_891.out
            have hms92_1 := NB902_892.out
            have hms92_2 := NB902_893.out
            have hms92_4 := NB902_903.out
            have hs94 : w91.cell? ⟨gb902, 1, none⟩ = some (.slice Ao51 t895.length co51) := (blk_cell BK902.out 1).trans rfl
            have hfs94 := blk_frozen BK902.out 1
            have hns94_0 := NB891_902.out
            have hns94_1 := NB892_902.out
            have hns94_2 := NB893_902.out
            have hns94_4 := NB903_902.out
            have hms94_0 := NB902_891.out
            have hms94_1 := NB902_892.out
            have hms94_2 := NB902_893.out
            have hms94_4 := NB902_903.out
            refine skip_ (w1 := ?_) (by rfl) rfl ?_ ?_
            rotate_left
            · go_simp
              rfl
            refine hK.out _ _ ?_
            clear hK K
            refine done_ (by kernel_rfl) ?_
            have hnb95 := NB902_891.out
            have hnc95 := NB891_902.out
            have hnb96 := NB902_892.out
            have hnc96 := NB892_902.out
            have hnb97 := NB902_893.out
            have hnc97 := NB893_902.out
            have hnb98 := NB902_903.out
            have hnc98 := NB903_902.out
            have hcz99_0 : w91.cell? ⟨gb902, 0, none⟩ = some (.bool t894) := (blk_cell BK902.out 0).trans rfl
            have hcz99_1 : w91.cell? ⟨gb902, 1, none⟩ = some (.slice Ao51 t895.length co51) := (blk_cell BK902.out 1).trans rfl
            have hfz99_0 := blk_frozen BK902.out 0
            have hfz99_1 := blk_frozen BK902.out 1
            have hnb100 := NB893_891.out
            have hnc100 := NB891_893.out
            have hnb101 := NB893_892.out
            have hnc101 := NB892_893.out
            have hnb102 := NB893_903.out
            have hnc102 := NB903_893.out
            have hcz103_0 : w91.cell? ⟨gb893, 0, none⟩ = some (.bool false) := (blk_cell BK893.out 0).trans rfl
            have hcz103_1 : w91.cell? ⟨gb893, 1, none⟩ = some (.slice none 0 0) := (blk_cell BK893.out 1).trans rfl
            have hfz103_0 := blk_frozen BK893.out 0
            have hfz103_1 := blk_frozen BK893.out 1
            try go_wp2
            refine bodyPost_ret (results_cell_row rfl _ _ gb893 31 #[.bool t915, .slice Ao93 t916.length co93] (0, 0) _ rfl (by (with_reducible repeat (first | refine blk_drewN ?_ _ | refine blk_drew ?_ | refine blk_alloc ?_ _)); refine blk_put (cs := #[.bool t915, .slice none 0 0]) ?_ 1 _ rfl; (with_reducible repeat (first | refine blk_drewN ?_ _ | refine blk_drew ?_ | refine blk_alloc ?_ _)); refine blk_put (cs := #[.bool false, .slice none 0 0]) ?_ 0 _ rfl; (with_reducible repeat (first | refine blk_drewN ?_ _ | refine blk_drew ?_ | refine blk_alloc ?_ _)); refine blk_far ?_ NB893_902.out _; (with_reducible repeat (first | refine blk_drewN ?_ _ | refine blk_drew ?_ | refine blk_alloc ?_ _)); refine blk_far ?_ NB893_902.out _; (with_reducible repeat (first | refine blk_drewN ?_ _ | refine blk_drew ?_ | refine blk_alloc ?_ _)); exact BK893.out) Tryd.underlying31 rfl (by kernel_rfl)) rfl ?_
            exact ⟨_, by first | rfl | (simp [errW_none, errW_some] <;> rfl) | (simp [*, errW_none, errW_some] <;> rfl), by refine Kd.R_lower (base := wb.heap.size) ?_ HBw.out.size; (with_reducible repeat (first | apply Kd.R_alloc | apply Kd.R_drewN | apply Kd.R_drew)); exact Kd.R_mono (Kd.R_far (p := ⟨gb893, 1, none⟩) (Kd.R_far (p := ⟨gb893, 0, none⟩) (Kd.R_far (p := ⟨gb902, 1, none⟩) (Kd.R_far (p := ⟨gb902, 0, none⟩) (Kd.R_types (Kd.R_types HO918.out BK902.out (by decide)) BK893.out (by decide)) (fun _ hk => hk.1.2) (.bool t915)) (fun _ hk => hk.1.2) (.slice Ao93 t916.length co93)) (fun _ hk => hk.2) (.bool t915)) (fun _ hk => hk.2) (.slice Ao93 t916.length co93)) (fun _ hk => trivial), by repeat (first | (with_reducible first | exact below_step HBw.out HB.out | apply below_alloc | apply pw_below_drewN | apply below_drew1 | refine below_set ?_ GE893.out | refine below_set ?_ (Nat.le_trans HBw.out.size GE902.out) | refine below_set ?_ (Nat.le_trans HBw.out.size GE903.out)) | exact below_step HBw.out HB.out)⟩
          · replace c85 := Bool.eq_false_iff.mpr c85
            subst c85
            have H1 : (some (t894, t895)) = some (r1, r2) := by rw [if_neg (show ¬ (false = true) by decide)] at H; exact H
            clear H
            have H := H1
            clear H1
            simp only [Option.some.injEq, Prod.mk.injEq] at H
            obtain ⟨rfl, rfl⟩ := H
            have hnb104 := NB902_891.out
            have hnc104 := NB891_902.out
            have hnb105 := NB902_892.out
            have hnc105 := NB892_902.out
            have hnb106 := NB902_893.out
            have hnc106 := NB893_902.out
            have hnb107 := NB902_903.out
            have hnc107 := NB903_902.out
            have hcz108_0 : wc.cell? ⟨gb902, 0, none⟩ = some (.bool t894) := (blk_cell BK902.out 0).trans rfl
            have hcz108_1 : wc.cell? ⟨gb902, 1, none⟩ = some (.slice Ao51 t895.length co51) := (blk_cell BK902.out 1).trans rfl
            have hfz108_0 := blk_frozen BK902.out 0
            have hfz108_1 := blk_frozen BK902.out 1
            have hnb109 := NB893_891.out
            have hnc109 := NB891_893.out
            have hnb110 := NB893_892.out
            have hnc110 := NB892_893.out
            have hnb111 := NB893_903.out
            have hnc111 := NB903_893.out
            have hcz112_0 : wc.cell? ⟨gb893, 0, none⟩ = some (.bool false) := (blk_cell BK893.out 0).trans rfl
            have hcz112_1 : wc.cell? ⟨gb893, 1, none⟩ = some (.slice none 0 0) := (blk_cell BK893.out 1).trans rfl
            have hfz112_0 := blk_frozen BK893.out 0
            have hfz112_1 := blk_frozen BK893.out 1
            go_wp2
            refine bodyPost_ret (results_cell_row rfl _ _ gb893 31 #[.bool t894, .slice Ao51 t895.length co51] (0, 0) _ rfl (by (with_reducible repeat (first | refine blk_drewN ?_ _ | refine blk_drew ?_ | refine blk_alloc ?_ _)); refine blk_put (cs := #[.bool t894, .slice none 0 0]) ?_ 1 _ rfl; (with_reducible repeat (first | refine blk_drewN ?_ _ | refine blk_drew ?_ | refine blk_alloc ?_ _)); refine blk_put (cs := #[.bool false, .slice none 0 0]) ?_ 0 _ rfl; (with_reducible repeat (first | refine blk_drewN ?_ _ | refine blk_drew ?_ | refine blk_alloc ?_ _)); exact BK893.out) Tryd.underlying31 rfl (by kernel_rfl)) rfl ?_
            exact ⟨_, by first | rfl | (simp [errW_none, errW_some] <;> rfl) | (simp [*, errW_none, errW_some] <;> rfl), by refine Kd.R_lower (base := wb.heap.size) ?_ HBw.out.size; (with_reducible repeat (first | apply Kd.R_alloc | apply Kd.R_drewN | apply Kd.R_drew)); exact Kd.R_mono (Kd.R_far (p := ⟨gb893, 1, none⟩) (Kd.R_far (p := ⟨gb893, 0, none⟩) (Kd.R_types HO_903001.out BK893.out (by decide)) (fun _ hk => hk.2) (.bool t894)) (fun _ hk => hk.2) (.slice Ao51 t895.length co51)) (fun _ hk => trivial), by repeat (first | (with_reducible first | exact below_step HBw.out HB.out | apply below_alloc | apply pw_below_drewN | apply below_drew1 | refine below_set ?_ GE893.out | refine below_set ?_ (Nat.le_trans HBw.out.size GE902.out) | refine below_set ?_ (Nat.le_trans HBw.out.size GE903.out)) | exact below_step HBw.out HB.out)⟩
end Go.Proofs.YtdjnneflpkllmaaDoor.Q

namespace Go.Proofs.YtdjnneflpkllmaaDoor.Q
open Go.RowKit Go.Proofs.YtdjnneflpkllmaaDoorW.PrintWords Go.Proofs.YtdjnneflpkllmaaDoorW.PrintLast Go.Proofs.YtdjnneflpkllmaaDoorW.PrintMore
attribute [local go_sem] max2_int min2_int max_two min_two max_three min_three max_four min_four   -- for this text's walks alone
set_option linter.unusedVariables false
set_option linter.unusedSimpArgs false
def merinoref01_Rounded.f (k : Nat) (a0_0 : Bool) (l0_1 : List Int) (a1_0 : Bool) (l1_1 : List Int) (a2 : Int) : Option (Bool × List Int) := if a1_0 = true then ((merinoref01_Neg.f k a0_0 l0_1).bind fun bn => ((merinoref01_Neg.f k true l1_1).bind fun bd => if bd.1 = true then none else merinoref01_Rounded.core k bn.1 bn.2 false bd.2 a2)) else merinoref01_Rounded.core k a0_0 l0_1 false l1_1 a2
theorem merinoref01_Rounded.mono : ∀ a0 a1 a2 a3 a4 k, LeO (merinoref01_Rounded.f k a0 a1 a2 a3 a4) (merinoref01_Rounded.f (k + 1) a0 a1 a2 a3 a4) := by
  intro a0 a1 a2 a3 a4 k
  unfold merinoref01_Rounded.f
  exact LeO.ite (LeO.bind (merinoref01_Neg.mono _ _ _) (fun _ => LeO.bind (merinoref01_Neg.mono _ _ _) (fun _ => LeO.ite (LeO.none _) (merinoref01_Rounded.core_mono _ _ _ _ _ k)))) (merinoref01_Rounded.core_mono _ _ _ _ _ k)
theorem merinoref01_Rounded.calls (k : Nat) (a0_0 : Bool) (A0_1 : Option Addr) (c0_1 : Nat) (l0_1 : List Int) (a1_0 : Bool) (A1_1 : Option Addr) (c1_1 : Nat) (l1_1 : List Int) (a2 : Int) (r1 : Bool) (r2 : List Int) (w : World) (hr0_1 : Kd.C (Kd.int .i64) w A0_1 l0_1.length l0_1) (hc0_1 : l0_1.length ≤ c0_1) (hr1_1 : Kd.C (Kd.int .i64) w A1_1 l1_1.length l1_1) (hc1_1 : l1_1.length ≤ c1_1) (h : merinoref01_Rounded.f k a0_0 l0_1 a1_0 l1_1 a2 = some (r1, r2)) :
    Calls Tryd.prog 99 #[.agg #[.bool a0_0, .slice A0_1 l0_1.length c0_1], .agg #[.bool a1_0, .slice A1_1 l1_1.length c1_1], .int .i64 a2] w fun e w' => ∃ v1_ : Value, e = .returned (.agg #[.bool r1, v1_]) ∧ Kd.R (Kd.int .i64) 3 w' w.heap.size (fun _ => True) v1_ r2 ∧ Below w.heap.size w w' := by
  cases a1_0 with
  | true =>
    rw [merinoref01_Rounded.f, if_pos rfl] at h
    obtain ⟨⟨n1, nl⟩, hN, h⟩ := Option.bind_eq_some_iff.mp h
    obtain ⟨⟨d1, dl⟩, hD, h⟩ := Option.bind_eq_some_iff.mp h
    cases d1 with
    | true => simp at h
    | false =>
      simp only [Bool.false_eq_true, if_false] at h
      exact merinoref01_Rounded.both k a0_0 A0_1 c0_1 l0_1 true A1_1 c1_1 l1_1 a2 n1 nl dl r1 r2 w hr0_1 hc0_1 hr1_1 hc1_1 (.inr ⟨rfl, hN, hD⟩) h
  | false =>
    rw [merinoref01_Rounded.f, if_neg (by decide)] at h
    exact merinoref01_Rounded.both k a0_0 A0_1 c0_1 l0_1 false A1_1 c1_1 l1_1 a2 a0_0 l0_1 l1_1 r1 r2 w hr0_1 hc0_1 hr1_1 hc1_1 (.inl ⟨rfl, rfl, rfl, rfl⟩) h
end Go.Proofs.YtdjnneflpkllmaaDoor.Q

namespace Go.Proofs.Num
open Go.RowKit Go.Proofs.YtdjnneflpkllmaaDoorW.PrintWords Go.Proofs.YtdjnneflpkllmaaDoorW.PrintMore Go.Proofs.YtdjnneflpkllmaaDoor.Q
set_option linter.unusedVariables false
set_option linter.unusedSimpArgs false
/-- Is it rounded up from the floor? -/
def upQ (x y m : Int) : Bool := if m = 1 then true else if m = 2 then decide (x < 0) else if m = 3 then decide (y ≤ 2 * (x % y)) else if m = 4 then decide (y < 2 * (x % y) ∨ (2 * (x % y) = y ∧ x / y % 2 = 1)) else false
/-- x/y rounded (y above 0). -/
def rndF (x y m : Int) : Int := if x % y = 0 then x / y else if upQ x y m = true then x / y + 1 else x / y
theorem good_par {l : List Int} {x : Int} (g : Good l x) (h : l ≠ []) : at_ l 0 % 2 = x % 2 := by
  cases l with
  | nil => exact (h rfl).elim
  | cons a t =>
    have := g.val
    simp only [valD] at this
    rw [at_cons_zero]
    omega
theorem mode2_ok {m : Int} : merinoref01_Mode.f m = some (decide (0 ≤ m ∧ m ≤ 4)) := by
  unfold merinoref01_Mode.f
  by_cases h : m ≥ 0
  · rw [if_pos h]; congr 1; rw [Bool.eq_iff_iff]; simp; omega
  · rw [if_neg h]; congr 1; symm; rw [decide_eq_false_iff_not]; omega
theorem rcore_ok {a : Bool} {l n : List Int} {x y m : Int} (R : Rep a l x) (gy : Good n y) (hy : 0 < y) (h1 : l.length ≤ 100) (h2 : n.length ≤ 100) :
    ∃ r, Ev (fun k => merinoref01_Rounded.core k a l false n m) (decide (rndF x y m < 0), r) ∧ Rep (decide (rndF x y m < 0)) r (rndF x y m) ∧ r.length ≤ 112 := by
  obtain ⟨q, r, EO, RQ, RR, lq, lr⟩ := over_ok (c := false) R gy hy h1 h2
  have r0 := Int.emod_nonneg x (show y ≠ 0 by omega)
  have r1 := Int.emod_lt_of_pos x hy
  have gr := RR.good
  rw [show ((x % y).natAbs : Int) = x % y by omega] at gr
  have zr : merinoref01_Zero.f false r = some (decide (x % y = 0)) := by
    unfold merinoref01_Zero.f
    congr 1
    rw [Bool.eq_iff_iff]
    simp only [beq_iff_eq, decide_eq_true_eq]
    constructor
    · intro h
      have : r = [] := by
        cases r with
        | nil => rfl
        | cons => simp at h; omega
      exact gr.zero_iff.1 this
    · intro h
      rw [gr.zero_iff.2 h]; rfl
  unfold merinoref01_Rounded.core
  by_cases hz : x % y = 0
  · have e : rndF x y m = x / y := by unfold rndF; rw [if_pos hz]
    rw [e]
    refine ⟨q, Ev.bind EO ?_, RQ, by omega⟩
    simp only [zr, Option.bind_some, decide_eq_true hz, if_true]
    exact Ev.now _
  · obtain ⟨p, EP, RP, lp⟩ := plus_ok RR RR (by omega) (by omega)
    have RY : Rep false n y := ⟨by rw [show (y.natAbs : Int) = y by omega]; exact gy, (decide_eq_false (by omega)).symm⟩
    have EC := compare_ok RP RY (by omega)
    obtain ⟨u, EU, RU, lu⟩ := of_ok (x := 1) (by omega) (by omega)
    obtain ⟨s, ES, RS, ls⟩ := plus_ok RQ RU (by omega) (by omega)
    have go : ∀ b : Bool, ∃ t, Ev (fun k => merinoref01_Rounded.j0 k b (decide (x / y < 0)) q) (decide ((if b = true then x / y + 1 else x / y) < 0), t) ∧ Rep (decide ((if b = true then x / y + 1 else x / y) < 0)) t (if b = true then x / y + 1 else x / y) ∧ t.length ≤ 112 := fun b => by
      cases b with
      | true =>
        simp only [if_true]
        refine ⟨s, Ev.step (f := fun k => (merinoref01_Of.f k 1).bind fun bt911 => ((merinoref01_Plus.f k (decide (x / y < 0)) q bt911.1 bt911.2).bind fun bt915 => (some (bt915.1, bt915.2)))) (fun k => by rw [merinoref01_Rounded.j0, if_pos rfl]) (Ev.bind EU (Ev.bind ES (Ev.now _))), RS, by omega⟩
      | false =>
        simp only [Bool.false_eq_true, if_false]
        exact ⟨q, Ev.step (f := fun _ => some (decide (x / y < 0), q)) (fun k => by rw [merinoref01_Rounded.j0, if_neg (by decide)]) (Ev.now _), RQ, by omega⟩
    obtain ⟨t, ET, RT, lt⟩ := go (upQ x y m)
    have e : rndF x y m = if upQ x y m = true then x / y + 1 else x / y := by unfold rndF; rw [if_neg hz]
    rw [e]
    refine ⟨t, Ev.bind EO ?_, RT, lt⟩
    simp only [zr, Option.bind_some, decide_eq_false hz, Bool.false_eq_true, if_false]
    refine Ev.bind EP (Ev.bind EC ?_)
    have key : ∀ b : Bool, b = upQ x y m → Ev (fun k => merinoref01_Rounded.j0 k b (decide (x / y < 0)) q) (decide ((if upQ x y m = true then x / y + 1 else x / y) < 0), t) := fun b hb => by rw [hb]; exact ET
    have c3 : cmpI (x % y + x % y) y ≥ 0 ↔ y ≤ 2 * (x % y) := by unfold cmpI; split <;> (try split) <;> omega
    have c4 : cmpI (x % y + x % y) y > 0 ↔ y < 2 * (x % y) := by unfold cmpI; split <;> (try split) <;> omega
    have c5 : cmpI (x % y + x % y) y = 0 ↔ 2 * (x % y) = y := by unfold cmpI; split <;> (try split) <;> omega
    by_cases m1 : m = 1
    · simp only [if_pos m1]
      exact key _ (by unfold upQ; rw [if_pos m1])
    · by_cases m2 : m = 2
      · simp only [if_neg m1, if_pos m2]
        exact key _ (by unfold upQ; rw [if_neg m1, if_pos m2]; exact R.sign)
      · by_cases m3 : m = 3
        · simp only [if_neg m1, if_neg m2, if_pos m3]
          exact key _ (by unfold upQ; rw [if_neg m1, if_neg m2, if_pos m3, decide_eq_decide]; exact c3)
        · by_cases m4 : m = 4
          · simp only [if_neg m1, if_neg m2, if_neg m3, if_pos m4]
            by_cases d1 : y < 2 * (x % y)
            · simp only [if_pos (c4.2 d1)]
              exact key _ (by unfold upQ; rw [if_neg m1, if_neg m2, if_neg m3, if_pos m4, decide_eq_true (Or.inl d1)])
            · simp only [if_neg (show ¬ cmpI (x % y + x % y) y > 0 from fun h => d1 (c4.1 h))]
              by_cases d2 : 2 * (x % y) = y
              · simp only [if_pos (c5.2 d2)]
                by_cases d3 : (q.length : Int) > 0
                · have hq : q ≠ [] := fun h => by rw [h] at d3; simp at d3
                  have par := good_par RQ.good hq
                  have dig := RQ.good.dig (at_ q 0) (by cases q with | nil => exact (hq rfl).elim | cons a t => rw [at_cons_zero]; exact List.mem_cons_self ..)
                  simp only [if_pos d3, if_pos (show 0 < (q.length : Int) by omega)]
                  refine key _ ?_
                  unfold upQ
                  rw [if_neg m1, if_neg m2, if_neg m3, if_pos m4, show rd q 0 = at_ q 0 from rd_nat q 0, Int.tmod_eq_emod_of_nonneg dig.1, Bool.eq_iff_iff]
                  simp only [beq_iff_eq, decide_eq_true_eq]
                  omega
                · have hq : q = [] := by
                    cases q with
                    | nil => rfl
                    | cons => simp at d3
                  have q0 := RQ.good.zero_iff.1 hq
                  simp only [if_neg d3]
                  exact key _ (by unfold upQ; rw [if_neg m1, if_neg m2, if_neg m3, if_pos m4]; symm; rw [decide_eq_false_iff_not]; omega)
              · simp only [if_neg (show ¬ cmpI (x % y + x % y) y = 0 from fun h => d2 (c5.1 h))]
                exact key _ (by unfold upQ; rw [if_neg m1, if_neg m2, if_neg m3, if_pos m4]; symm; rw [decide_eq_false_iff_not]; omega)
          · simp only [if_neg m1, if_neg m2, if_neg m3, if_neg m4]
            exact key _ (by unfold upQ; rw [if_neg m1, if_neg m2, if_neg m3, if_neg m4])
/-- Of any divisor but 0. -/
def rndS (x y m : Int) : Int := if y < 0 then rndF (-x) (-y) m else rndF x y m
theorem rrounded_ok {a b : Bool} {l n : List Int} {x y m : Int} (R : Rep a l x) (S : Rep b n y) (hy : y ≠ 0) (h1 : l.length ≤ 100) (h2 : n.length ≤ 100) :
    ∃ r, Ev (fun k => merinoref01_Rounded.f k a l b n m) (decide (rndS x y m < 0), r) ∧ Rep (decide (rndS x y m < 0)) r (rndS x y m) ∧ r.length ≤ 112 := by
  unfold merinoref01_Rounded.f rndS
  by_cases c : y < 0
  · have hb : b = true := by rw [S.sign]; exact decide_eq_true c
    subst hb
    simp only [if_true, if_pos c]
    obtain ⟨r1, E1, R1, l1⟩ := neg_big_ok R (by omega)
    obtain ⟨r2, E2, R2, l2⟩ := neg_big_ok S (by omega)
    have g := R2.good
    rw [show ((-y).natAbs : Int) = -y by omega] at g
    obtain ⟨r, E, RR, lr⟩ := rcore_ok (m := m) R1 g (by omega) (by omega) (by omega)
    refine ⟨r, Ev.bind E1 (Ev.bind E2 ?_), RR, lr⟩
    have e : decide (-y < 0) = false := decide_eq_false (by omega)
    simp only [e, Bool.false_eq_true, if_false]
    exact E
  · have hb : b = false := by rw [S.sign]; exact decide_eq_false c
    subst hb
    simp only [Bool.false_eq_true, if_false, if_neg c]
    have g := S.good
    rw [show (y.natAbs : Int) = y by omega] at g
    exact rcore_ok R g (by omega) h1 h2
/-- The same by sizes. -/
theorem rnd_rndF {x y m : Int} (hy : 0 < y) (m0 : 0 ≤ m) (m1 : m ≤ 4) : rnd (decide (x < 0)) ((x.natAbs : Int) / y) ((x.natAbs : Int) % y) y m = rndF x y m := by
  by_cases hx : x < 0
  · have e := Int.mul_ediv_add_emod (x.natAbs : Int) y
    have r0 := Int.emod_nonneg (x.natAbs : Int) (show y ≠ 0 by omega)
    have r1 := Int.emod_lt_of_pos (x.natAbs : Int) hy
    generalize (x.natAbs : Int) / y = q at *
    generalize (x.natAbs : Int) % y = r at *
    have c1 : y * q = q * y := Int.mul_comm _ _
    rw [decide_eq_true hx]
    by_cases hr : r = 0
    · have d := div_of (N := x) (y := y) (q := -q) hy (by rw [Int.neg_mul]; omega) (by rw [Int.add_mul, Int.neg_mul]; omega)
      rw [Int.neg_mul] at d
      unfold rndF rnd
      rw [← d.1, ← d.2, if_pos (show x - -(q * y) = 0 by omega)]
      simp [hr]
    · have d := div_of (N := x) (y := y) (q := -q - 1) hy (by rw [Int.sub_mul, Int.neg_mul]; omega) (by rw [Int.add_mul, Int.sub_mul, Int.neg_mul]; omega)
      rw [Int.sub_mul, Int.neg_mul] at d
      have e2 : x - (-(q * y) - 1 * y) = y - r := by omega
      rw [e2] at d
      unfold rndF rnd upQ
      rw [← d.1, ← d.2, if_neg (show ¬ y - r = 0 by omega)]
      simp only [if_neg hr, if_true]
      rcases (show m = 0 ∨ m = 1 ∨ m = 2 ∨ m = 3 ∨ m = 4 by omega) with h | h | h | h | h <;> subst h <;> simp [hx] <;> (repeat' split) <;> omega
  · rw [decide_eq_false hx, show (x.natAbs : Int) = x by omega]
    have r0 := Int.emod_nonneg x (show y ≠ 0 by omega)
    unfold rndF rnd upQ
    generalize x / y = q at *
    generalize x % y = r at *
    by_cases hr : r = 0
    · simp [hr]
    · simp only [if_neg hr]
      rcases (show m = 0 ∨ m = 1 ∨ m = 2 ∨ m = 3 ∨ m = 4 by omega) with h | h | h | h | h <;> subst h <;> simp [hx] <;> (repeat' split) <;> omega
theorem rnd_bd (neg : Bool) {q r d m : Int} (hq : 0 ≤ q) : q ≤ ((rnd neg q r d m).natAbs : Int) ∧ ((rnd neg q r d m).natAbs : Int) ≤ q + 1 ∧ (r = 0 → ((rnd neg q r d m).natAbs : Int) = q) := by
  unfold rnd
  cases neg <;> simp only [Bool.false_eq_true, if_false, if_true] <;> (repeat' split) <;> omega
end Go.Proofs.Num

namespace Go.Proofs.Num
set_option linter.unusedVariables false
set_option linter.unusedSimpArgs false
/-- a/v is ahead of b/w, or as far with the lower index. -/
def Ahead (a v : Int) (i : Nat) (b w : Int) (j : Nat) : Prop := a * w < b * v ∨ (a * w = b * v ∧ i < j)
theorem Ahead.le {a v : Int} {i : Nat} {b w : Int} {j : Nat} (h : Ahead a v i b w j) : a * w ≤ b * v := by
  rcases h with h | h <;> omega
theorem mul_le_r {a b c : Int} (h : a ≤ b) (hc : 0 ≤ c) : a * c ≤ b * c := Int.mul_le_mul_of_nonneg_right h hc
theorem mul_lt_r {a b c : Int} (h : a < b) (hc : 0 < c) : a * c < b * c := Int.mul_lt_mul_of_pos_right h hc
theorem lt_of_mul_r {a b c : Int} (h : a * c < b * c) (hc : 0 ≤ c) : a < b := Int.lt_of_mul_lt_mul_right h hc
theorem le_of_mul_r {a b c : Int} (h : a * c ≤ b * c) (hc : 0 < c) : a ≤ b := Int.le_of_mul_le_mul_right h hc
theorem Ahead.trans {a v : Int} {i : Nat} {b w : Int} {j : Nat} {c u : Int} {k : Nat} (h : Ahead a v i b w j) (g : Ahead b w j c u k) (hv : 0 < v) (hw : 0 < w) (hu : 0 < u) : Ahead a v i c u k := by
  have e1 : a * w * u = a * u * w := by grind
  have e2 : b * v * u = b * u * v := by grind
  have e3 : c * w * v = c * v * w := by grind
  have h1 := mul_le_r h.le (show 0 ≤ u by omega)
  have g1 := mul_le_r g.le (show 0 ≤ v by omega)
  have r := le_of_mul_r (show a * u * w ≤ c * v * w by omega) hw
  rcases h with h | ⟨h, hi⟩
  · have h2 := mul_lt_r h hu
    exact Or.inl (lt_of_mul_r (show a * u * w < c * v * w by omega) (by omega))
  · rcases g with g | ⟨g, gi⟩
    · have g2 := mul_lt_r g hv
      exact Or.inl (lt_of_mul_r (show a * u * w < c * v * w by omega) (by omega))
    · rcases Int.lt_or_eq_of_le r with r | r
      · exact Or.inl r
      · exact Or.inr ⟨r, by omega⟩
/-- A division of highest averages: every unit that was given is ahead of every unit that was not. -/
structure Stable (n : Nat) (p w : Nat → Int) : Prop where
  nn : ∀ i, i < n → 0 ≤ p i
  ww : ∀ i, i < n → 0 ≤ w i
  none : ∀ i, i < n → w i = 0 → p i = 0
  ah : ∀ i j, i < n → j < n → 0 < p i → 0 < w j → i ≠ j → Ahead (2 * p i - 1) (w i) i (2 * p j + 1) (w j) j
def sumTo (p : Nat → Int) : Nat → Int
  | 0 => 0
  | n + 1 => sumTo p n + p n
theorem Stable.congr {n : Nat} {p q w v : Nat → Int} (P : Stable n p w) (h : ∀ i, i < n → p i = q i) (g : ∀ i, i < n → w i = v i) : Stable n q v := by
  refine ⟨fun i hi => h i hi ▸ P.nn i hi, fun i hi => g i hi ▸ P.ww i hi, fun i hi e => ?_, fun i j hi hj h1 h2 ij => ?_⟩
  · rw [← h i hi]; exact P.none i hi (by rw [g i hi]; exact e)
  · have := P.ah i j hi hj (by rw [h i hi]; exact h1) (by rw [g j hj]; exact h2) ij
    rw [h i hi, h j hj, g i hi, g j hj] at this
    exact this
end Go.Proofs.Num

namespace Go.Proofs.YtdjnneflpkllmaaDoor.Q
open Go.RowKit Go.Proofs.YtdjnneflpkllmaaDoorW.PrintWords Go.Proofs.YtdjnneflpkllmaaDoorW.PrintLast Go.Proofs.YtdjnneflpkllmaaDoorW.PrintMore
attribute [local go_sem] max2_int min2_int max_two min_two max_three min_three max_four min_four   -- for this text's walks alone
set_option linter.unusedVariables false
set_option linter.unusedSimpArgs false
def cmp_Or_int.l0 : Nat → Int → List Int → Int → Int → Option (Int)
  | 0, _, _, _, _ => none
  | k + 1, x3, x6, x7, x8 => if x8 < x7 then (if 0 ≤ x8 then (if x8 < (x6.length : Int) then (if (rd x6 x8) = x3 then (cmp_Or_int.l0 k x3 x6 x7 (wrap64 (x8 + 1))) else (some (rd x6 x8))) else (none)) else (none)) else (some x3)
def cmp_Or_int.f (k : Nat) (l0 : List Int) : Option (Int) := cmp_Or_int.l0 k 0 l0 (l0.length : Int) 0
theorem cmp_Or_int.mono_l : ∀ k, (∀ y0 y1 y2 y3, LeO (cmp_Or_int.l0 k y0 y1 y2 y3) (cmp_Or_int.l0 (k + 1) y0 y1 y2 y3))
  | 0 => fun _ _ _ _ r h => by simp [cmp_Or_int.l0] at h
  | k + 1 => by
    have ih0 := cmp_Or_int.mono_l k
    · intro y0 y1 y2 y3
      unfold cmp_Or_int.l0
      repeat' first
      | (with_reducible exact ih0 _ _ _ _)
      | (with_reducible exact LeO.refl _)
      | (with_reducible exact LeO.none _)
      | (with_reducible refine LeO.ite ?_ ?_)
      | (with_reducible refine LeO.bind ?_ (fun _ => ?_))
      | exact ih0 _ _ _ _
      | exact LeO.none _
      | refine LeO.ite ?_ ?_
      | refine LeO.bind ?_ (fun _ => ?_)
theorem cmp_Or_int.mono : ∀ a0 k, LeO (cmp_Or_int.f k a0) (cmp_Or_int.f (k + 1) a0) := by
  intro a0 k
  have ih0 := cmp_Or_int.mono_l k
  unfold cmp_Or_int.f
  repeat' first
      | (with_reducible exact ih0 _ _ _ _)
      | (with_reducible exact LeO.refl _)
      | (with_reducible exact LeO.none _)
      | (with_reducible refine LeO.ite ?_ ?_)
      | (with_reducible refine LeO.bind ?_ (fun _ => ?_))
      | exact ih0 _ _ _ _
      | exact LeO.none _
      | refine LeO.ite ?_ ?_
      | refine LeO.bind ?_ (fun _ => ?_)
def cmp_isNaN_uint64.f (a0 : Int) : Option (Bool) := some (a0 != a0)
def cmp_Compare_uint64.f (a0 : Int) (a1 : Int) : Option (Int) := (cmp_isNaN_uint64.f a0).bind fun t750 => ((cmp_isNaN_uint64.f a1).bind fun t751 => (if t750 = true then (if t751 = true then (some 0) else (some (-1))) else (if t751 = true then (some 1) else (if a0 < a1 then (some (-1)) else (if a0 > a1 then (some 1) else (some 0))))))
def num_before.f (k : Nat) (a0 : Int) (a1 : Int) (a2 : Int) (a3 : Int) : Option (Int) := (bits_Mul64.f (IntKind.u64.wrap (a0)) (IntKind.u64.wrap (a3))).bind fun bt752 => ((bits_Mul64.f (IntKind.u64.wrap (a2)) (IntKind.u64.wrap (a1))).bind fun bt754 => ((cmp_Compare_uint64.f bt752.1 bt754.1).bind fun t756 => ((cmp_Compare_uint64.f bt752.2 bt754.2).bind fun t757 => ((cmp_Or_int.f k (([t756, t757] : List Int))).bind fun t761 => (some t761)))))
theorem num_before.mono : ∀ a0 a1 a2 a3 k, LeO (num_before.f k a0 a1 a2 a3) (num_before.f (k + 1) a0 a1 a2 a3) := by
  intro a0 a1 a2 a3 k
  unfold num_before.f
  repeat' first
      | (with_reducible exact cmp_Or_int.mono _ _)
      | (with_reducible exact LeO.refl _)
      | (with_reducible exact LeO.none _)
      | (with_reducible refine LeO.ite ?_ ?_)
      | (with_reducible refine LeO.bind ?_ (fun _ => ?_))
      | exact cmp_Or_int.mono _ _
      | exact LeO.none _
      | refine LeO.ite ?_ ?_
      | refine LeO.bind ?_ (fun _ => ?_)
def num_next.l0 : Nat → List Int → List Int → Int → List Int → Int → Int → Option (Int)
  | 0, _, _, _, _, _, _ => none
  | k + 1, x0, x1, x5, x8, x9, x10 => if x10 < x9 then (if 0 ≤ x10 then (if x10 < (x8.length : Int) then (if (rd x8 x10) > 0 then (if x5 < 0 then (num_next.l0 k x0 x1 x10 x8 x9 (wrap64 (x10 + 1))) else (if x10 < (x0.length : Int) then (if 0 ≤ x5 then (if x5 < (x0.length : Int) then (if x5 < (x1.length : Int) then ((num_before.f k (wrap64 ((wrap64 (2 * (rd x0 x10))) + 1)) (rd x8 x10) (wrap64 ((wrap64 (2 * (rd x0 x5))) + 1)) (rd x1 x5)).bind fun t766 => (if t766 < 0 then (num_next.l0 k x0 x1 x10 x8 x9 (wrap64 (x10 + 1))) else (num_next.l0 k x0 x1 x5 x8 x9 (wrap64 (x10 + 1))))) else (none)) else (none)) else (none)) else (none))) else (num_next.l0 k x0 x1 x5 x8 x9 (wrap64 (x10 + 1)))) else (none)) else (none)) else (some x5)
def num_next.f (k : Nat) (l0 : List Int) (l1 : List Int) : Option (Int) := num_next.l0 k l0 l1 (-1) l1 (l1.length : Int) 0
theorem num_next.mono_l : ∀ k, (∀ y0 y1 y2 y3 y4 y5, LeO (num_next.l0 k y0 y1 y2 y3 y4 y5) (num_next.l0 (k + 1) y0 y1 y2 y3 y4 y5))
  | 0 => fun _ _ _ _ _ _ r h => by simp [num_next.l0] at h
  | k + 1 => by
    have ih0 := num_next.mono_l k
    · intro y0 y1 y2 y3 y4 y5
      unfold num_next.l0
      repeat' first
      | (with_reducible exact ih0 _ _ _ _ _ _)
      | (with_reducible exact num_before.mono _ _ _ _ _)
      | (with_reducible exact LeO.refl _)
      | (with_reducible exact LeO.none _)
      | (with_reducible refine LeO.ite ?_ ?_)
      | (with_reducible refine LeO.bind ?_ (fun _ => ?_))
      | exact ih0 _ _ _ _ _ _
      | exact num_before.mono _ _ _ _ _
      | exact LeO.none _
      | refine LeO.ite ?_ ?_
      | refine LeO.bind ?_ (fun _ => ?_)
theorem num_next.mono : ∀ a0 a1 k, LeO (num_next.f k a0 a1) (num_next.f (k + 1) a0 a1) := by
  intro a0 a1 k
  have ih0 := num_next.mono_l k
  unfold num_next.f
  repeat' first
      | (with_reducible exact ih0 _ _ _ _ _ _)
      | (with_reducible exact num_before.mono _ _ _ _ _)
      | (with_reducible exact LeO.refl _)
      | (with_reducible exact LeO.none _)
      | (with_reducible refine LeO.ite ?_ ?_)
      | (with_reducible refine LeO.bind ?_ (fun _ => ?_))
      | exact ih0 _ _ _ _ _ _
      | exact num_before.mono _ _ _ _ _
      | exact LeO.none _
      | refine LeO.ite ?_ ?_
      | refine LeO.bind ?_ (fun _ => ?_)
end Go.Proofs.YtdjnneflpkllmaaDoor.Q

namespace Go.Proofs.YtdjnneflpkllmaaDoor.Q
open Go.RowKit Go.Proofs.YtdjnneflpkllmaaDoorW.PrintWords Go.Proofs.YtdjnneflpkllmaaDoorW.PrintLast Go.Proofs.YtdjnneflpkllmaaDoorW.PrintMore
attribute [local go_sem] max2_int min2_int max_two min_two max_three min_three max_four min_four   -- for this text's walks alone
set_option linter.unusedVariables false
set_option linter.unusedSimpArgs false
def num_latest.l0 : Nat → List Int → List Int → Int → List Int → Int → Int → Option (Int)
  | 0, _, _, _, _, _, _ => none
  | k + 1, x0, x1, x5, x8, x9, x10 => if x10 < x9 then (if 0 ≤ x10 then (if x10 < (x8.length : Int) then (if (rd x8 x10) > 0 then (if x10 < (x0.length : Int) then (if (rd x0 x10) > 0 then (if x5 < 0 then (num_latest.l0 k x0 x1 x10 x8 x9 (wrap64 (x10 + 1))) else (if 0 ≤ x5 then (if x5 < (x0.length : Int) then (if x5 < (x1.length : Int) then ((num_before.f k (wrap64 ((wrap64 (2 * (rd x0 x10))) - 1)) (rd x8 x10) (wrap64 ((wrap64 (2 * (rd x0 x5))) - 1)) (rd x1 x5)).bind fun t772 => (if t772 ≥ 0 then (num_latest.l0 k x0 x1 x10 x8 x9 (wrap64 (x10 + 1))) else (num_latest.l0 k x0 x1 x5 x8 x9 (wrap64 (x10 + 1))))) else (none)) else (none)) else (none))) else (num_latest.l0 k x0 x1 x5 x8 x9 (wrap64 (x10 + 1)))) else (none)) else (num_latest.l0 k x0 x1 x5 x8 x9 (wrap64 (x10 + 1)))) else (none)) else (none)) else (some x5)
def num_latest.f (k : Nat) (l0 : List Int) (l1 : List Int) : Option (Int) := num_latest.l0 k l0 l1 (-1) l1 (l1.length : Int) 0
theorem num_latest.mono_l : ∀ k, (∀ y0 y1 y2 y3 y4 y5, LeO (num_latest.l0 k y0 y1 y2 y3 y4 y5) (num_latest.l0 (k + 1) y0 y1 y2 y3 y4 y5))
  | 0 => fun _ _ _ _ _ _ r h => by simp [num_latest.l0] at h
  | k + 1 => by
    have ih0 := num_latest.mono_l k
    · intro y0 y1 y2 y3 y4 y5
      unfold num_latest.l0
      repeat' first
      | (with_reducible exact ih0 _ _ _ _ _ _)
      | (with_reducible exact num_before.mono _ _ _ _ _)
      | (with_reducible exact LeO.refl _)
      | (with_reducible exact LeO.none _)
      | (with_reducible refine LeO.ite ?_ ?_)
      | (with_reducible refine LeO.bind ?_ (fun _ => ?_))
      | exact ih0 _ _ _ _ _ _
      | exact num_before.mono _ _ _ _ _
      | exact LeO.none _
      | refine LeO.ite ?_ ?_
      | refine LeO.bind ?_ (fun _ => ?_)
theorem num_latest.mono : ∀ a0 a1 k, LeO (num_latest.f k a0 a1) (num_latest.f (k + 1) a0 a1) := by
  intro a0 a1 k
  have ih0 := num_latest.mono_l k
  unfold num_latest.f
  repeat' first
      | (with_reducible exact ih0 _ _ _ _ _ _)
      | (with_reducible exact num_before.mono _ _ _ _ _)
      | (with_reducible exact LeO.refl _)
      | (with_reducible exact LeO.none _)
      | (with_reducible refine LeO.ite ?_ ?_)
      | (with_reducible refine LeO.bind ?_ (fun _ => ?_))
      | exact ih0 _ _ _ _ _ _
      | exact num_before.mono _ _ _ _ _
      | exact LeO.none _
      | refine LeO.ite ?_ ?_
      | refine LeO.bind ?_ (fun _ => ?_)
end Go.Proofs.YtdjnneflpkllmaaDoor.Q

namespace Go.Proofs.YtdjnneflpkllmaaDoor.Q
open Go.RowKit Go.Proofs.YtdjnneflpkllmaaDoorW.PrintWords Go.Proofs.YtdjnneflpkllmaaDoorW.PrintLast Go.Proofs.YtdjnneflpkllmaaDoorW.PrintMore
attribute [local go_sem] max2_int min2_int max_two min_two max_three min_three max_four min_four   -- for this text's walks alone
set_option linter.unusedVariables false
set_option linter.unusedSimpArgs false
mutual
def num_weighed.j0 : Nat → Int → List Int → Bool → Option (Int × Int)
  | 0, _, _, _ => none
  | k + 1, x0, x1, x17 => if x17 = true then (some (0, 2)) else (num_weighed.l0 k x0 0 x1 (x1.length : Int) 0)
def num_weighed.l0 : Nat → Int → Int → List Int → Int → Int → Option (Int × Int)
  | 0, _, _, _, _, _ => none
  | k + 1, x0, x6, x18, x19, x20 => if x20 < x19 then (if 0 ≤ x20 then (if x20 < (x18.length : Int) then (if (rd x18 x20) < 0 then (some (0, 2)) else (if (rd x18 x20) > 1073741824 then (some (0, 2)) else (num_weighed.l0 k x0 (wrap64 (x6 + (rd x18 x20))) x18 x19 (wrap64 (x20 + 1))))) else (none)) else (none)) else (if x6 = 0 then (if x0 = 0 then (some (x6, 0)) else (some (0, 5))) else (some (x6, 0)))
end
def num_weighed.f (k : Nat) (a0 : Int) (l1 : List Int) : Option (Int × Int) := if (l1.length : Int) > 256 then (some (0, 3)) else (if a0 < 0 then (num_weighed.j0 k a0 l1 true) else (num_weighed.j0 k a0 l1 (decide (a0 > 1125899906842624))))
theorem num_weighed.mono_l : ∀ k, (∀ y0 y1 y2, LeO (num_weighed.j0 k y0 y1 y2) (num_weighed.j0 (k + 1) y0 y1 y2)) ∧ (∀ y0 y1 y2 y3 y4, LeO (num_weighed.l0 k y0 y1 y2 y3 y4) (num_weighed.l0 (k + 1) y0 y1 y2 y3 y4))
  | 0 => ⟨fun _ _ _ r h => by simp [num_weighed.j0] at h, fun _ _ _ _ _ r h => by simp [num_weighed.l0] at h⟩
  | k + 1 => by
    obtain ⟨ih0, ih1⟩ := num_weighed.mono_l k
    refine ⟨?_, ?_⟩
    · intro y0 y1 y2
      unfold num_weighed.j0
      repeat' first
      | (with_reducible exact ih0 _ _ _)
      | (with_reducible exact ih1 _ _ _ _ _)
      | (with_reducible exact LeO.refl _)
      | (with_reducible exact LeO.none _)
      | (with_reducible refine LeO.ite ?_ ?_)
      | (with_reducible refine LeO.bind ?_ (fun _ => ?_))
      | exact ih0 _ _ _
      | exact ih1 _ _ _ _ _
      | exact LeO.none _
      | refine LeO.ite ?_ ?_
      | refine LeO.bind ?_ (fun _ => ?_)
    · intro y0 y1 y2 y3 y4
      unfold num_weighed.l0
      repeat' first
      | (with_reducible exact ih0 _ _ _)
      | (with_reducible exact ih1 _ _ _ _ _)
      | (with_reducible exact LeO.refl _)
      | (with_reducible exact LeO.none _)
      | (with_reducible refine LeO.ite ?_ ?_)
      | (with_reducible refine LeO.bind ?_ (fun _ => ?_))
      | exact ih0 _ _ _
      | exact ih1 _ _ _ _ _
      | exact LeO.none _
      | refine LeO.ite ?_ ?_
      | refine LeO.bind ?_ (fun _ => ?_)
theorem num_weighed.mono : ∀ a0 a1 k, LeO (num_weighed.f k a0 a1) (num_weighed.f (k + 1) a0 a1) := by
  intro a0 a1 k
  obtain ⟨ih0, ih1⟩ := num_weighed.mono_l k
  unfold num_weighed.f
  repeat' first
      | (with_reducible exact ih0 _ _ _)
      | (with_reducible exact ih1 _ _ _ _ _)
      | (with_reducible exact LeO.refl _)
      | (with_reducible exact LeO.none _)
      | (with_reducible refine LeO.ite ?_ ?_)
      | (with_reducible refine LeO.bind ?_ (fun _ => ?_))
      | exact ih0 _ _ _
      | exact ih1 _ _ _ _ _
      | exact LeO.none _
      | refine LeO.ite ?_ ?_
      | refine LeO.bind ?_ (fun _ => ?_)
def num_share.f (k : Nat) (a0 : Int) (a1 : Int) (a2 : Int) : Option (Int × Int) := (bits_Mul64.f (IntKind.u64.wrap (a0)) (IntKind.u64.wrap (a1))).bind fun bt123 => ((bits_Div64.f k bt123.1 bt123.2 (IntKind.u64.wrap (a2))).bind fun bt125 => (some (wrap64 (bt125.1), wrap64 (bt125.2))))
theorem num_share.mono : ∀ a0 a1 a2 k, LeO (num_share.f k a0 a1 a2) (num_share.f (k + 1) a0 a1 a2) := by
  intro a0 a1 a2 k
  unfold num_share.f
  repeat' first
      | (with_reducible exact bits_Div64.mono _ _ _ _)
      | (with_reducible exact LeO.refl _)
      | (with_reducible exact LeO.none _)
      | (with_reducible refine LeO.ite ?_ ?_)
      | (with_reducible refine LeO.bind ?_ (fun _ => ?_))
      | exact bits_Div64.mono _ _ _ _
      | exact LeO.none _
      | refine LeO.ite ?_ ?_
      | refine LeO.bind ?_ (fun _ => ?_)
mutual
def num_Divide.l0 : Nat → Int → List Int → Int → List Int → Int → List Int → Int → Int → Option (List Int × Int)
  | 0, _, _, _, _, _, _, _, _ => none
  | k + 1, x0, x1, x6, x8, x9, x29, x30, x31 => if x31 < x30 then (if 0 ≤ x31 then (if x31 < (x29.length : Int) then ((num_share.f k x0 (rd x29 x31) x6).bind fun bt880 => (if (wrap64 (2 * bt880.2)) ≥ x6 then (if x31 < (x8.length : Int) then (num_Divide.l0 k x0 x1 x6 (x8.set (x31 : Int).toNat (wrap64 (bt880.1 + 1))) (wrap64 (x9 + (wrap64 (bt880.1 + 1)))) x29 x30 (wrap64 (x31 + 1))) else (none)) else (if x31 < (x8.length : Int) then (num_Divide.l0 k x0 x1 x6 (x8.set (x31 : Int).toNat bt880.1) (wrap64 (x9 + bt880.1)) x29 x30 (wrap64 (x31 + 1))) else (none)))) else (none)) else (none)) else (num_Divide.l1 k x0 x1 x8 x9)
def num_Divide.l1 : Nat → Int → List Int → List Int → Int → Option (List Int × Int)
  | 0, _, _, _, _ => none
  | k + 1, x0, x1, x8, x9 => if x9 < x0 then ((num_next.f k x8 x1).bind fun t884 => (if 0 ≤ t884 then (if t884 < (x8.length : Int) then (num_Divide.l1 k x0 x1 (x8.set (t884 : Int).toNat (wrap64 ((rd x8 t884) + 1))) (wrap64 (x9 + 1))) else (none)) else (none))) else (num_Divide.l2 k x0 x1 x8 x9)
def num_Divide.l2 : Nat → Int → List Int → List Int → Int → Option (List Int × Int)
  | 0, _, _, _, _ => none
  | k + 1, x0, x1, x8, x9 => if x9 > x0 then ((num_latest.f k x8 x1).bind fun t887 => (if 0 ≤ t887 then (if t887 < (x8.length : Int) then (num_Divide.l2 k x0 x1 (x8.set (t887 : Int).toNat (wrap64 ((rd x8 t887) - 1))) (wrap64 (x9 - 1))) else (none)) else (none))) else (some (x8, 0))
end
def num_Divide.f (k : Nat) (a0 : Int) (l1 : List Int) : Option (List Int × Int) := (num_weighed.f k a0 l1).bind fun bt874 => (if bt874.2 = 0 then (if 0 ≤ (l1.length : Int) then (if ((l1.length : Int) : Int).toNat ≤ 35184372088832 then ((some (List.replicate ((l1.length : Int) : Int).toNat 0 : List Int)).bind fun y876 => (if bt874.1 = 0 then (some (y876, 0)) else (num_Divide.l0 k a0 l1 bt874.1 y876 0 l1 (l1.length : Int) 0))) else (none)) else (none)) else (some (([] : List Int), bt874.2)))
theorem num_Divide.mono_l : ∀ k, (∀ y0 y1 y2 y3 y4 y5 y6 y7, LeO (num_Divide.l0 k y0 y1 y2 y3 y4 y5 y6 y7) (num_Divide.l0 (k + 1) y0 y1 y2 y3 y4 y5 y6 y7)) ∧ (∀ y0 y1 y2 y3, LeO (num_Divide.l1 k y0 y1 y2 y3) (num_Divide.l1 (k + 1) y0 y1 y2 y3)) ∧ (∀ y0 y1 y2 y3, LeO (num_Divide.l2 k y0 y1 y2 y3) (num_Divide.l2 (k + 1) y0 y1 y2 y3))
  | 0 => ⟨fun _ _ _ _ _ _ _ _ r h => by simp [num_Divide.l0] at h, fun _ _ _ _ r h => by simp [num_Divide.l1] at h, fun _ _ _ _ r h => by simp [num_Divide.l2] at h⟩
  | k + 1 => by
    obtain ⟨ih0, ih1, ih2⟩ := num_Divide.mono_l k
    refine ⟨?_, ?_, ?_⟩
    · intro y0 y1 y2 y3 y4 y5 y6 y7
      unfold num_Divide.l0
      repeat' first
      | (with_reducible exact ih0 _ _ _ _ _ _ _ _)
      | (with_reducible exact ih1 _ _ _ _)
      | (with_reducible exact ih2 _ _ _ _)
      | (with_reducible exact num_latest.mono _ _ _)
      | (with_reducible exact num_next.mono _ _ _)
      | (with_reducible exact num_share.mono _ _ _ _)
      | (with_reducible exact num_weighed.mono _ _ _)
      | (with_reducible exact LeO.refl _)
      | (with_reducible exact LeO.none _)
      | (with_reducible refine LeO.ite ?_ ?_)
      | (with_reducible refine LeO.bind ?_ (fun _ => ?_))
      | exact ih0 _ _ _ _ _ _ _ _
      | exact ih1 _ _ _ _
      | exact ih2 _ _ _ _
      | exact num_latest.mono _ _ _
      | exact num_next.mono _ _ _
      | exact num_share.mono _ _ _ _
      | exact num_weighed.mono _ _ _
      | exact LeO.none _
      | refine LeO.ite ?_ ?_
      | refine LeO.bind ?_ (fun _ => ?_)
    · intro y0 y1 y2 y3
      unfold num_Divide.l1
      repeat' first
      | (with_reducible exact ih0 _ _ _ _ _ _ _ _)
      | (with_reducible exact ih1 _ _ _ _)
      | (with_reducible exact ih2 _ _ _ _)
      | (with_reducible exact num_latest.mono _ _ _)
      | (with_reducible exact num_next.mono _ _ _)
      | (with_reducible exact num_share.mono _ _ _ _)
      | (with_reducible exact num_weighed.mono _ _ _)
      | (with_reducible exact LeO.refl _)
      | (with_reducible exact LeO.none _)
      | (with_reducible refine LeO.ite ?_ ?_)
      | (with_reducible refine LeO.bind ?_ (fun _ => ?_))
      | exact ih0 _ _ _ _ _ _ _ _
      | exact ih1 _ _ _ _
      | exact ih2 _ _ _ _
      | exact num_latest.mono _ _ _
      | exact num_next.mono _ _ _
      | exact num_share.mono _ _ _ _
      | exact num_weighed.mono _ _ _
      | exact LeO.none _
      | refine LeO.ite ?_ ?_
      | refine LeO.bind ?_ (fun _ => ?_)
    · intro y0 y1 y2 y3
      unfold num_Divide.l2
      repeat' first
      | (with_reducible exact ih0 _ _ _ _ _ _ _ _)
      | (with_reducible exact ih1 _ _ _ _)
      | (with_reducible exact ih2 _ _ _ _)
      | (with_reducible exact num_latest.mono _ _ _)
      | (with_reducible exact num_next.mono _ _ _)
      | (with_reducible exact num_share.mono _ _ _ _)
      | (with_reducible exact num_weighed.mono _ _ _)
      | (with_reducible exact LeO.refl _)
      | (with_reducible exact LeO.none _)
      | (with_reducible refine LeO.ite ?_ ?_)
      | (with_reducible refine LeO.bind ?_ (fun _ => ?_))
      | exact ih0 _ _ _ _ _ _ _ _
      | exact ih1 _ _ _ _
      | exact ih2 _ _ _ _
      | exact num_latest.mono _ _ _
      | exact num_next.mono _ _ _
      | exact num_share.mono _ _ _ _
      | exact num_weighed.mono _ _ _
      | exact LeO.none _
      | refine LeO.ite ?_ ?_
      | refine LeO.bind ?_ (fun _ => ?_)
theorem num_Divide.mono : ∀ a0 a1 k, LeO (num_Divide.f k a0 a1) (num_Divide.f (k + 1) a0 a1) := by
  intro a0 a1 k
  obtain ⟨ih0, ih1, ih2⟩ := num_Divide.mono_l k
  unfold num_Divide.f
  repeat' first
      | (with_reducible exact ih0 _ _ _ _ _ _ _ _)
      | (with_reducible exact ih1 _ _ _ _)
      | (with_reducible exact ih2 _ _ _ _)
      | (with_reducible exact num_latest.mono _ _ _)
      | (with_reducible exact num_next.mono _ _ _)
      | (with_reducible exact num_share.mono _ _ _ _)
      | (with_reducible exact num_weighed.mono _ _ _)
      | (with_reducible exact LeO.refl _)
      | (with_reducible exact LeO.none _)
      | (with_reducible refine LeO.ite ?_ ?_)
      | (with_reducible refine LeO.bind ?_ (fun _ => ?_))
      | exact ih0 _ _ _ _ _ _ _ _
      | exact ih1 _ _ _ _
      | exact ih2 _ _ _ _
      | exact num_latest.mono _ _ _
      | exact num_next.mono _ _ _
      | exact num_share.mono _ _ _ _
      | exact num_weighed.mono _ _ _
      | exact LeO.none _
      | refine LeO.ite ?_ ?_
      | refine LeO.bind ?_ (fun _ => ?_)
end Go.Proofs.YtdjnneflpkllmaaDoor.Q

namespace Go.Proofs.Num
open Go.RowKit Go.Proofs.YtdjnneflpkllmaaDoorW.PrintWords Go.Proofs.YtdjnneflpkllmaaDoorW.PrintMore Go.Proofs.YtdjnneflpkllmaaDoor.Q
set_option linter.unusedVariables false
set_option linter.unusedSimpArgs false
end Go.Proofs.Num

namespace Go.Proofs.YtdjnneflpkllmaaDoor.Q
open Go.RowKit Go.Proofs.YtdjnneflpkllmaaDoorW.PrintWords Go.Proofs.YtdjnneflpkllmaaDoorW.PrintLast Go.Proofs.YtdjnneflpkllmaaDoorW.PrintMore
attribute [local go_sem] max2_int min2_int max_two min_two max_three min_three max_four min_four   -- for this text's walks alone
set_option linter.unusedVariables false
set_option linter.unusedSimpArgs false
def merinolaw01_same.l0 : Nat → List Int → List Int → Int → Option (Bool)
  | 0, _, _, _ => none
  | k + 1, x0, x1, x5 => if x5 < (x0.length : Int) then (if 0 ≤ x5 then (if x5 < (x1.length : Int) then (if (rd x0 x5) = (rd x1 x5) then (merinolaw01_same.l0 k x0 x1 (wrap64 (x5 + 1))) else (some false)) else (none)) else (none)) else (some true)
def merinolaw01_same.f (k : Nat) (l0 : List Int) (l1 : List Int) : Option (Bool) := if (l0.length : Int) = (l1.length : Int) then (merinolaw01_same.l0 k l0 l1 0) else (some false)
theorem merinolaw01_same.mono_l : ∀ k, (∀ y0 y1 y2, LeO (merinolaw01_same.l0 k y0 y1 y2) (merinolaw01_same.l0 (k + 1) y0 y1 y2))
  | 0 => fun _ _ _ r h => by simp [merinolaw01_same.l0] at h
  | k + 1 => by
    have ih0 := merinolaw01_same.mono_l k
    · intro y0 y1 y2
      unfold merinolaw01_same.l0
      repeat' first
      | (with_reducible exact ih0 _ _ _)
      | (with_reducible exact LeO.refl _)
      | (with_reducible exact LeO.none _)
      | (with_reducible refine LeO.ite ?_ ?_)
      | (with_reducible refine LeO.bind ?_ (fun _ => ?_))
      | exact ih0 _ _ _
      | exact LeO.none _
      | refine LeO.ite ?_ ?_
      | refine LeO.bind ?_ (fun _ => ?_)
theorem merinolaw01_same.mono : ∀ a0 a1 k, LeO (merinolaw01_same.f k a0 a1) (merinolaw01_same.f (k + 1) a0 a1) := by
  intro a0 a1 k
  have ih0 := merinolaw01_same.mono_l k
  unfold merinolaw01_same.f
  repeat' first
      | (with_reducible exact ih0 _ _ _)
      | (with_reducible exact LeO.refl _)
      | (with_reducible exact LeO.none _)
      | (with_reducible refine LeO.ite ?_ ?_)
      | (with_reducible refine LeO.bind ?_ (fun _ => ?_))
      | exact ih0 _ _ _
      | exact LeO.none _
      | refine LeO.ite ?_ ?_
      | refine LeO.bind ?_ (fun _ => ?_)
set_option maxHeartbeats 8000000 in
set_option maxRecDepth 100000 in
theorem merinolaw01_same.calls (k : Nat) (A0 : Option Addr) (c0 : Nat) (l0 : List Int) (A1 : Option Addr) (c1 : Nat) (l1 : List Int) (r : Bool) (w : World) (hr0 : Kd.C (Kd.int .i64) w A0 l0.length l0) (hc0 : l0.length ≤ c0) (hr1 : Kd.C (Kd.int .i64) w A1 l1.length l1) (hc1 : l1.length ≤ c1) (h : merinolaw01_same.f k l0 l1 = some r) :
    Calls Tryd.prog 41 #[.slice A0 l0.length c0, .slice A1 l1.length c1] w fun e w' => e = .returned (.bool r) ∧ Drawn0 w w' := by
  have HR0 := Aside0.mk hr0
  have HC0 := Aside0.mk hc0
  clear hr0 hc0
  have HR1 := Aside0.mk hr1
  have HC1 := Aside0.mk hc1
  clear hr1 hc1
  have H : (if (l0.length : Int) = (l1.length : Int) then (merinolaw01_same.l0 k l0 l1 0) else (some false)) = some r := h
  clear h
  by_cases c3 : (l0.length : Int) = (l1.length : Int)
  · rw [if_pos c3] at H
    have c3b0 : ((l0.length : Int) == (l1.length : Int)) = true := beq_iff_eq.mpr c3
    have c3b1 : ((l0.length : Int) != (l1.length : Int)) = false := bne_eq_false_iff_eq.mpr c3
    have c3b2 : (l0.length == l1.length) = true := by first | simpa using c3 | (simp at c3 ⊢; omega)
    clear c3
    have H' := Aside0.mk H
    clear H
    go_enter Tryd.func41, Tryd.ntmps41
    go_wp2
    repeat (go_quiet (fail); try go_wp2)
    go_loopg [5] k (fun kq v5 w' => ∃ (x5_1 : Int), v5 = .int .i64 x5_1 ∧ Aside0 (merinolaw01_same.l0 kq l0 l1 x5_1 = some r) ∧ Aside0 (kq ≤ k) ∧ Drawn0 w w')
    case atStart => exact ⟨(0), (by first | rfl | (simp; done) | (simp [*]; done)), H', ⟨Nat.le_refl _⟩, by repeat (first | exact Drawn0.refl _ | apply Drawn0.step)⟩
    case round =>
      clear H'
      try clear c1
      try clear p2
      try clear c3
      try clear c3b0
      try clear c3b1
      try clear c3b2
      obtain ⟨x5_1, rfl, HA, HK1, ⟨m1, rfl⟩⟩ := hrel
      cases gk with
      | zero => exact absurd HA.out (by simp [merinolaw01_same.l0])
      | succ k1 =>
        have H := HA.out
        clear HA
        simp only [merinolaw01_same.l0] at H
        by_cases c4 : x5_1 < (l0.length : Int)
        · rw [if_pos c4] at H
          have c4b0 : decide (x5_1 < (l0.length : Int)) = true := decide_eq_true c4
          clear c4
          by_cases c5 : 0 ≤ x5_1
          · rw [if_pos c5] at H
            have c5b0 : decide (0 ≤ x5_1) = true := decide_eq_true c5
            clear c5
            by_cases c6 : x5_1 < (l1.length : Int)
            · rw [if_pos c6] at H
              have c6b0 : decide (x5_1 < (l1.length : Int)) = true := decide_eq_true c6
              clear c6
              by_cases c7 : (rd l0 x5_1) = (rd l1 x5_1)
              · rw [if_pos c7] at H
                have c7b0 : ((rd l0 x5_1) == (rd l1 x5_1)) = true := beq_iff_eq.mpr c7
                have c7b1 : ((rd l0 x5_1) != (rd l1 x5_1)) = false := bne_eq_false_iff_eq.mpr c7
                clear c7
                have H' := Aside0.mk H
                clear H
                have p118 : 0 ≤ (x5_1 : Int) := of_decide_eq_true (by first | (with_reducible assumption) | assumption)
                have q118 : x5_1 < (l0.length : Int) := of_decide_eq_true (by first | (with_reducible assumption) | assumption)
                obtain ⟨ad118, e118, hx118_0⟩ := Kd.at_int HR0.out x5_1 p118 q118
                cases e118
                replace p118 := eq_true p118
                replace q118 := eq_true q118
                have p119 : 0 ≤ (x5_1 : Int) := of_decide_eq_true (by first | (with_reducible assumption) | assumption)
                have q119 : x5_1 < (l1.length : Int) := of_decide_eq_true (by first | (with_reducible assumption) | assumption)
                obtain ⟨ad119, e119, hx119_0⟩ := Kd.at_int HR1.out x5_1 p119 q119
                cases e119
                replace p119 := eq_true p119
                replace q119 := eq_true q119
                go_wp2
                repeat (go_quiet (fail); try go_wp2)
                go_roundg k1
                case measure => have := HK1.out; omega
                case rel => exact ⟨(wrap64 (x5_1 + 1)), (by first | rfl | (simp; done) | (simp [*]; done)), H', ⟨by have := HK1.out; omega⟩, by repeat (first | exact Drawn0.refl _ | apply Drawn0.step)⟩
              · rw [if_neg c7] at H
                have c7b0 : ((rd l0 x5_1) == (rd l1 x5_1)) = false := beq_eq_false_iff_ne.mpr c7
                have c7b1 : ((rd l0 x5_1) != (rd l1 x5_1)) = true := bne_iff_ne.mpr c7
                obtain rfl := Option.some.inj H
                have p118 : 0 ≤ (x5_1 : Int) := of_decide_eq_true (by first | (with_reducible assumption) | assumption)
                have q118 : x5_1 < (l0.length : Int) := of_decide_eq_true (by first | (with_reducible assumption) | assumption)
                obtain ⟨ad118, e118, hx118_0⟩ := Kd.at_int HR0.out x5_1 p118 q118
                cases e118
                replace p118 := eq_true p118
                replace q118 := eq_true q118
                have p119 : 0 ≤ (x5_1 : Int) := of_decide_eq_true (by first | (with_reducible assumption) | assumption)
                have q119 : x5_1 < (l1.length : Int) := of_decide_eq_true (by first | (with_reducible assumption) | assumption)
                obtain ⟨ad119, e119, hx119_0⟩ := Kd.at_int HR1.out x5_1 p119 q119
                cases e119
                replace p119 := eq_true p119
                replace q119 := eq_true q119
                go_wp2
                repeat (go_quiet (fail); try go_wp2)
                go_ret
                exact ⟨by first | rfl | (simp; done) | (simp [*]; done), by repeat (first | exact Drawn0.refl _ | apply Drawn0.step)⟩
            · rw [if_neg c6] at H
              exact absurd H (by simp)
          · rw [if_neg c5] at H
            exact absurd H (by simp)
        · rw [if_neg c4] at H
          have c4b0 : decide (x5_1 < (l0.length : Int)) = false := decide_eq_false c4
          clear c4
          obtain rfl := Option.some.inj H
          go_wp2
          repeat (go_quiet (fail); try go_wp2)
          go_ret
          exact ⟨by first | rfl | (simp; done) | (simp [*]; done), by repeat (first | exact Drawn0.refl _ | apply Drawn0.step)⟩
  · rw [if_neg c3] at H
    have c3b0 : ((l0.length : Int) == (l1.length : Int)) = false := beq_eq_false_iff_ne.mpr c3
    have c3b1 : ((l0.length : Int) != (l1.length : Int)) = true := bne_iff_ne.mpr c3
    have c3b2 : (l0.length == l1.length) = false := by first | simpa using c3 | (simp at c3 ⊢; omega)
    obtain rfl := Option.some.inj H
    go_enter Tryd.func41, Tryd.ntmps41
    go_wp2
    repeat (go_quiet (fail); try go_wp2)
    go_ret
    exact ⟨by first | rfl | (simp; done) | (simp [*]; done), by repeat (first | exact Drawn0.refl _ | apply Drawn0.step)⟩
end Go.Proofs.YtdjnneflpkllmaaDoor.Q

namespace Go.Proofs.YtdjnneflpkllmaaDoor.Q
open Go.RowKit Go.Proofs.YtdjnneflpkllmaaDoorW.PrintWords Go.Proofs.YtdjnneflpkllmaaDoorW.PrintLast Go.Proofs.YtdjnneflpkllmaaDoorW.PrintMore
attribute [local go_sem] max2_int min2_int max_two min_two max_three min_three max_four min_four   -- for this text's walks alone
set_option linter.unusedVariables false
set_option linter.unusedSimpArgs false
def merinolaw01_fullc.l0 : Nat → List Int → List Int → Int → Option (List Int)
  | 0, _, _, _ => none
  | k + 1, x0, x3, x4 => if x4 < (x3.length : Int) then (if 0 ≤ x4 then ((some (x3.set (x4 : Int).toNat 77 : List Int)).bind fun y612 => (if x4 < (x0.length : Int) then (merinolaw01_fullc.l0 k x0 (y612.set (x4 : Int).toNat (rd x0 x4)) (wrap64 (x4 + 1))) else (merinolaw01_fullc.l0 k x0 y612 (wrap64 (x4 + 1))))) else (none)) else (if 0 ≤ (x0.length : Int) then (if (x0.length : Int) ≤ (x3.length : Int) then (some x3) else (none)) else (none))
def merinolaw01_fullc.f (k : Nat) (l0 : List Int) : Option (List Int) := if 0 ≤ (wrap64 ((l0.length : Int) + 2)) then (if (wrap64 ((l0.length : Int) + 2) : Int).toNat ≤ 35184372088832 then (merinolaw01_fullc.l0 k l0 (List.replicate (wrap64 ((l0.length : Int) + 2) : Int).toNat 0) 0) else (none)) else (none)
theorem merinolaw01_fullc.mono_l : ∀ k, (∀ y0 y1 y2, LeO (merinolaw01_fullc.l0 k y0 y1 y2) (merinolaw01_fullc.l0 (k + 1) y0 y1 y2))
  | 0 => fun _ _ _ r h => by simp [merinolaw01_fullc.l0] at h
  | k + 1 => by
    have ih0 := merinolaw01_fullc.mono_l k
    · intro y0 y1 y2
      unfold merinolaw01_fullc.l0
      repeat' first
      | (with_reducible exact ih0 _ _ _)
      | (with_reducible exact LeO.refl _)
      | (with_reducible exact LeO.none _)
      | (with_reducible refine LeO.ite ?_ ?_)
      | (with_reducible refine LeO.bind ?_ (fun _ => ?_))
      | exact ih0 _ _ _
      | exact LeO.none _
      | refine LeO.ite ?_ ?_
      | refine LeO.bind ?_ (fun _ => ?_)
theorem merinolaw01_fullc.mono : ∀ a0 k, LeO (merinolaw01_fullc.f k a0) (merinolaw01_fullc.f (k + 1) a0) := by
  intro a0 k
  have ih0 := merinolaw01_fullc.mono_l k
  unfold merinolaw01_fullc.f
  repeat' first
      | (with_reducible exact ih0 _ _ _)
      | (with_reducible exact LeO.refl _)
      | (with_reducible exact LeO.none _)
      | (with_reducible refine LeO.ite ?_ ?_)
      | (with_reducible refine LeO.bind ?_ (fun _ => ?_))
      | exact ih0 _ _ _
      | exact LeO.none _
      | refine LeO.ite ?_ ?_
      | refine LeO.bind ?_ (fun _ => ?_)
set_option maxHeartbeats 8000000 in
set_option maxRecDepth 100000 in
theorem merinolaw01_fullc.calls (k : Nat) (A0 : Option Addr) (c0 : Nat) (l0 : List Int) (r : List Int) (w : World) (hr0 : Kd.C (Kd.int .i64) w A0 l0.length l0) (hc0 : l0.length ≤ c0) (h : merinolaw01_fullc.f k l0 = some r) :
    Calls Tryd.prog 36 #[.slice A0 l0.length c0] w fun e w' => ∃ (A_ : Option Addr) (c_ : Nat), e = .returned (.slice A_ l0.length c_) ∧ Kd.R (Kd.int .i64) 3 w' w.heap.size (fun _ => True) (.slice A_ r.length c_) r ∧ Below w.heap.size w w' := by
  have HR0 := Aside0.mk hr0
  have HC0 := Aside0.mk hc0
  clear hr0 hc0
  have HB := Aside0.mk (Below.refl w.heap.size w)
  have H : (if 0 ≤ (wrap64 ((l0.length : Int) + 2)) then (if (wrap64 ((l0.length : Int) + 2) : Int).toNat ≤ 35184372088832 then (merinolaw01_fullc.l0 k l0 (List.replicate (wrap64 ((l0.length : Int) + 2) : Int).toNat 0) 0) else (none)) else (none)) = some r := h
  clear h
  obtain ⟨ji2, hji2⟩ : ∃ j_ : Int, (wrap64 ((l0.length : Int) + 2)) = j_ := ⟨_, rfl⟩
  replace H : (if 0 ≤ (ji2) then (if (ji2 : Int).toNat ≤ 35184372088832 then (merinolaw01_fullc.l0 k l0 (List.replicate (ji2 : Int).toNat 0) 0) else (none)) else (none)) = some r := by first | (rw [hji2] at H; exact H) | (simp only [hji2] at H ⊢; exact H)
  have hji2w : (IntKind.i64.wrap ((l0.length : Int) + 2)) = ji2 := (i64_w _).trans hji2
  by_cases c3 : 0 ≤ (ji2)
  · rw [if_pos c3] at H
    have c3b0 := eq_true c3
    have c3b1 : decide (0 ≤ (ji2)) = true := decide_eq_true c3
    clear c3
    by_cases c4 : (ji2 : Int).toNat ≤ 35184372088832
    · rw [if_pos c4] at H
      have c4b0 := eq_true c4
      have c4b1 : decide ((ji2 : Int).toNat ≤ 35184372088832) = true := decide_eq_true c4
      clear c4
      obtain ⟨y609, hy609⟩ : ∃ y_ : List Int, y_ = (List.replicate (ji2 : Int).toNat 0) := ⟨_, rfl⟩
      replace H : (merinolaw01_fullc.l0 k l0 y609 0) = some r := by first | (rw [hy609]; with_reducible exact H) | (have H2_ := (Option.bind_some _ _).symm.trans H; rw [hy609]; with_reducible exact H2_) | (have H2_ := (Option.bind_some _ _).symm.trans H; with_reducible exact H2_) | with_reducible exact H | (rw [hy609]; exact H) | exact H
      have Ny609 := Aside0.mk hy609
      clear hy609
      have H' := Aside0.mk H
      clear H
      go_enter Tryd.func36, Tryd.ntmps36
      go_wp2_with (first | ((with_reducible refine gate_dst (N := 8) rfl ?_); refine Kd.R_make (Kd.int .i64) _ 3 rfl (N := 8) rfl 29 _ _ rfl ji2 rfl rfl Tryd.underlying29 (.int .i64 0) 8 info3 rfl (by decide) (by omega) 0 (ok := fun _ => True) (okp := fun _ => True) rfl (fun _ hk => hk) trivial (of_decide_eq_true (by first | (with_reducible assumption) | assumption)) (Nat.le_trans (Nat.mul_le_mul_right _ (of_decide_eq_true (by first | (with_reducible assumption) | assumption) : ji2.toNat ≤ 35184372088832)) (by omega)) (Below.refl _ _) (Nat.le_refl _) ?_; intro v610 w5 ho6 hb hg_ hnew_; clear hg_ hnew_; (first | rw [← Ny609.out] at ho6 | (simp only [Int.reduceToNat] at ho6; rw [← Ny609.out] at ho6)); have n0_ := Aside0.mk (Kd.R_lower ho6 (below_size (q0_ HB.out))); have n1_ := Aside0.mk (below_step (q0_ HB.out) hb); clear HB; have HO611 := n0_; have HB := n1_; clear n0_ n1_; clear hb ho6))
      go_loopg [4] k (fun kq v4 w' => ∃ (x3_1 : List Int) (x4_1 : Int), v4 = .int .i64 x4_1 ∧ Aside0 (merinolaw01_fullc.l0 kq l0 x3_1 x4_1 = some r) ∧ Aside0 (kq ≤ k) ∧ Aside0 (Kd.R (Kd.int .i64) 3 w' w.heap.size (fun _ => True) v610 x3_1) ∧ Aside0 (Below w.heap.size w w'))
      case atStart => exact ⟨(y609), (0), (by first | rfl | (simp; done) | (simp [*]; done)), H', ⟨Nat.le_refl _⟩, ⟨by (with_reducible repeat (first | apply Kd.R_alloc | apply Kd.R_drewN | apply Kd.R_drew)); exact HO611.out⟩, ⟨(q0_ HB.out)⟩⟩
      case round =>
        clear H'
        try clear p2
        try clear c3
        try clear c3b0
        try clear c3b1
        try clear c4
        try clear c4b0
        try clear c4b1
        try clear p6
        obtain ⟨x3_1, x4_1, rfl, HA, HK1, HO_3, HB⟩ := hrel
        cases gk with
        | zero => exact absurd HA.out (by simp [merinolaw01_fullc.l0])
        | succ k1 =>
          have H := HA.out
          clear HA
          simp only [merinolaw01_fullc.l0] at H
          by_cases c7 : x4_1 < (x3_1.length : Int)
          · rw [if_pos c7] at H
            have c7b0 : decide (x4_1 < (x3_1.length : Int)) = true := decide_eq_true c7
            clear c7
            by_cases c8 : 0 ≤ x4_1
            · rw [if_pos c8] at H
              have c8b0 : decide (0 ≤ x4_1) = true := decide_eq_true c8
              clear c8
              obtain ⟨y612, hy612⟩ : ∃ y_ : List Int, y_ = (x3_1.set (x4_1 : Int).toNat 77) := ⟨_, rfl⟩
              replace H : (if x4_1 < (l0.length : Int) then (merinolaw01_fullc.l0 k1 l0 (y612.set (x4_1 : Int).toNat (rd l0 x4_1)) (wrap64 (x4_1 + 1))) else (merinolaw01_fullc.l0 k1 l0 y612 (wrap64 (x4_1 + 1)))) = some r := by first | (rw [hy612]; with_reducible exact H) | (have H2_ := (Option.bind_some _ _).symm.trans H; rw [hy612]; with_reducible exact H2_) | (have H2_ := (Option.bind_some _ _).symm.trans H; with_reducible exact H2_) | with_reducible exact H | (rw [hy612]; exact H) | exact H
              have Ny612 := Aside0.mk hy612
              clear hy612
              by_cases c10 : x4_1 < (l0.length : Int)
              · rw [if_pos c10] at H
                have c10b0 : decide (x4_1 < (l0.length : Int)) = true := decide_eq_true c10
                clear c10
                obtain ⟨y614, hy614⟩ : ∃ y_ : List Int, y_ = (y612.set (x4_1 : Int).toNat (rd l0 x4_1)) := ⟨_, rfl⟩
                replace H : (merinolaw01_fullc.l0 k1 l0 y614 (wrap64 (x4_1 + 1))) = some r := by first | (rw [hy614]; with_reducible exact H) | (have H2_ := (Option.bind_some _ _).symm.trans H; rw [hy614]; with_reducible exact H2_) | (have H2_ := (Option.bind_some _ _).symm.trans H; with_reducible exact H2_) | with_reducible exact H | (rw [hy614]; exact H) | exact H
                have Ny614 := Aside0.mk hy614
                clear hy614
                have H' := Aside0.mk H
                clear H
                obtain ⟨Ao12, co12, eo12⟩ := Kd.R_slice HO_3.out
                subst eo12
                have p9 : 0 ≤ (x4_1 : Int) := of_decide_eq_true (by first | (with_reducible assumption) | assumption)
                have q9 : (x4_1 : Int) < ((x3_1.length : Int) : Int) := of_decide_eq_true (by first | (with_reducible assumption) | assumption)
                obtain ⟨go9, co9, eo9, gb9, gl9, cl9, HG9⟩ := Kd.R_form HO_3.out (by omega)
                (first | cases eo9 | (injection eo9 with ea_ en_ ec_; (first | subst ea_ | (injection ea_ with ea_; subst ea_)); subst ec_; clear en_))
                have GB9 := Aside0.mk gb9
                have GG9 := Aside0.mk HG9
                clear gb9 gl9 HG9
                obtain ⟨hx9_0, hf9_0⟩ := Kd.R_celln 0 HO_3.out (x4_1 : Int) p9 q9
                replace p9 := eq_true p9
                replace q9 := eq_true q9
                have HP13 := Kd.R_putg HO_3.out (x4_1 : Int) 77
                go_wp2_with (first | ((with_reducible refine gate_store (t := 3) (p := 17) rfl ?_); refine store_event (t := 3) (p := 17) (v := ?vo_w14) (w1 := (wr.setCell ⟨go9, (x4_1 : Int).toNat, none⟩ (.int .i64 77))) ?hg ?ho ?hn ?hr ?_; (case ho => rfl); (case hg => rfl); (case hn => rfl); (case hr => first | (go_simp; done) | (go_simp; rfl)); intro w14 hw; have hg : wr.grownBy w14 (some go9) := (by rw [hw]; exact HP13.2); have hp_ : Kd.R (Kd.int .i64) 3 w14 w.heap.size (fun _ => True) (.slice (some ⟨go9, 0, none⟩) x3_1.length co12) y612 := (by rw [hw, Ny612.out]; exact HP13.1); clear HP13; have n0_ := Aside0.mk (hp_); have n1_ := Aside0.mk ((by rw [hw]; exact below_set (HB.out) GB9.out : Below w.heap.size w w14)); clear HO_3; clear HB; have HO_3 := n0_; have HB := n1_; clear n0_ n1_; clear hg hw hp_; have p613 : 0 ≤ (x4_1 : Int) := of_decide_eq_true (by first | (with_reducible assumption) | assumption); have q613 : x4_1 < (l0.length : Int) := of_decide_eq_true (by first | (with_reducible assumption) | assumption); obtain ⟨ad613, e613, hx613_0⟩ := Kd.at_int HR0.out x4_1 p613 q613; cases e613; replace hx613_0 := (HB.out.cell (World.block_lt_of_cell? w _ hx613_0)).trans hx613_0; replace p613 := eq_true p613; replace q613 := eq_true q613; have p11 : 0 ≤ (x4_1 : Int) := of_decide_eq_true (by first | (with_reducible assumption) | assumption); have q11 : (x4_1 : Int) < ((x3_1.length : Int) : Int) := of_decide_eq_true (by first | (with_reducible assumption) | assumption); obtain ⟨hx11_0, hf11_0⟩ := Kd.R_celln 0 HO_3.out (x4_1 : Int) p11 q11; replace p11 := eq_true p11; replace q11 := eq_true q11; obtain ⟨hy15_, hz15_⟩ := Kd.R_celln 0 HO_3.out (x4_1 : Int) (of_decide_eq_true (by first | (with_reducible assumption) | assumption)) (of_decide_eq_true (by first | (with_reducible assumption) | assumption)); have HP15 := Kd.R_putg HO_3.out (x4_1 : Int) (rd l0 x4_1)) | ((with_reducible refine gate_store (t := 3) (p := 28) rfl ?_); refine store_event (t := 3) (p := 28) (v := ?vo_w16) (w1 := (w14.setCell ⟨go9, (x4_1 : Int).toNat, none⟩ (.int .i64 (rd l0 x4_1)))) ?hg ?ho ?hn ?hr ?_; (case ho => rfl); (case hg => rfl); (case hn => rfl); (case hr => first | (go_simp; done) | (go_simp; rfl)); intro w16 hw; have hg : w14.grownBy w16 (some go9) := (by rw [hw]; exact HP15.2); have hp_ : Kd.R (Kd.int .i64) 3 w16 w.heap.size (fun _ => True) (.slice (some ⟨go9, 0, none⟩) x3_1.length co12) y614 := (by rw [hw, Ny614.out]; exact HP15.1); clear HP15; have n0_ := Aside0.mk (hp_); have n1_ := Aside0.mk ((by rw [hw]; exact below_set (HB.out) GB9.out : Below w.heap.size w w16)); clear HO_3; clear HB; have HO_3 := n0_; have HB := n1_; clear n0_ n1_; clear hg hw hp_))
                go_roundg k1
                case measure => have := HK1.out; omega
                case rel => exact ⟨(y614), (wrap64 (x4_1 + 1)), (by first | rfl | (simp; done) | (simp [*]; done)), H', ⟨by have := HK1.out; omega⟩, ⟨by (with_reducible repeat (first | apply Kd.R_alloc | apply Kd.R_drewN | apply Kd.R_drew)); exact HO_3.out⟩, ⟨(q0_ HB.out)⟩⟩
              · rw [if_neg c10] at H
                have c10b0 : decide (x4_1 < (l0.length : Int)) = false := decide_eq_false c10
                clear c10
                have H' := Aside0.mk H
                clear H
                obtain ⟨Ao17, co17, eo17⟩ := Kd.R_slice HO_3.out
                subst eo17
                have p9 : 0 ≤ (x4_1 : Int) := of_decide_eq_true (by first | (with_reducible assumption) | assumption)
                have q9 : (x4_1 : Int) < ((x3_1.length : Int) : Int) := of_decide_eq_true (by first | (with_reducible assumption) | assumption)
                obtain ⟨go9, co9, eo9, gb9, gl9, cl9, HG9⟩ := Kd.R_form HO_3.out (by omega)
                (first | cases eo9 | (injection eo9 with ea_ en_ ec_; (first | subst ea_ | (injection ea_ with ea_; subst ea_)); subst ec_; clear en_))
                have GB9 := Aside0.mk gb9
                have GG9 := Aside0.mk HG9
                clear gb9 gl9 HG9
                obtain ⟨hx9_0, hf9_0⟩ := Kd.R_celln 0 HO_3.out (x4_1 : Int) p9 q9
                replace p9 := eq_true p9
                replace q9 := eq_true q9
                have HP18 := Kd.R_putg HO_3.out (x4_1 : Int) 77
                go_wp2_with (first | ((with_reducible refine gate_store (t := 3) (p := 17) rfl ?_); refine store_event (t := 3) (p := 17) (v := ?vo_w19) (w1 := (wr.setCell ⟨go9, (x4_1 : Int).toNat, none⟩ (.int .i64 77))) ?hg ?ho ?hn ?hr ?_; (case ho => rfl); (case hg => rfl); (case hn => rfl); (case hr => first | (go_simp; done) | (go_simp; rfl)); intro w19 hw; have hg : wr.grownBy w19 (some go9) := (by rw [hw]; exact HP18.2); have hp_ : Kd.R (Kd.int .i64) 3 w19 w.heap.size (fun _ => True) (.slice (some ⟨go9, 0, none⟩) x3_1.length co17) y612 := (by rw [hw, Ny612.out]; exact HP18.1); clear HP18; have n0_ := Aside0.mk (hp_); have n1_ := Aside0.mk ((by rw [hw]; exact below_set (HB.out) GB9.out : Below w.heap.size w w19)); clear HO_3; clear HB; have HO_3 := n0_; have HB := n1_; clear n0_ n1_; clear hg hw hp_))
                go_roundg k1
                case measure => have := HK1.out; omega
                case rel => exact ⟨(y612), (wrap64 (x4_1 + 1)), (by first | rfl | (simp; done) | (simp [*]; done)), H', ⟨by have := HK1.out; omega⟩, ⟨by (with_reducible repeat (first | apply Kd.R_alloc | apply Kd.R_drewN | apply Kd.R_drew)); exact HO_3.out⟩, ⟨(q0_ HB.out)⟩⟩
            · rw [if_neg c8] at H
              exact absurd H (by simp)
          · rw [if_neg c7] at H
            have c7b0 : decide (x4_1 < (x3_1.length : Int)) = false := decide_eq_false c7
            clear c7
            by_cases c20 : 0 ≤ (l0.length : Int)
            · rw [if_pos c20] at H
              have c20b0 := eq_true c20
              have c20b1 : decide (0 ≤ (l0.length : Int)) = true := decide_eq_true c20
              clear c20
              by_cases c21 : (l0.length : Int) ≤ (x3_1.length : Int)
              · rw [if_pos c21] at H
                have c21b0 := eq_true c21
                have c21b1 : decide ((l0.length : Int) ≤ (x3_1.length : Int)) = true := decide_eq_true c21
                clear c21
                obtain rfl := Option.some.inj H
                obtain ⟨Ao22, co22, eo22⟩ := Kd.R_slice HO_3.out
                subst eo22
                have q23 : ((l0.length : Int) : Int) ≤ ((x3_1.length : Int) : Int) := of_decide_eq_true (by first | (with_reducible assumption) | assumption)
                obtain ⟨i023, hi023, _, hsz23, _⟩ := info_parts info3
                have hcut23 := cut_to (P := Tryd.prog) 29 3 .i64 Tryd.underlying29 hi023 Ao22 x3_1.length co22 (l0.length : Int) (of_decide_eq_true (by first | (with_reducible assumption) | assumption)) q23 (Kd.R_reads' HO_3.out).2.1
                rw [Int.toNat_natCast] at hcut23
                clear hi023 hsz23
                replace q23 := eq_true q23
                go_wp2
                go_ret
                exact ⟨Ao22, co22, rfl, HO_3.out, HB.out⟩
              · rw [if_neg c21] at H
                exact absurd H (by simp)
            · rw [if_neg c20] at H
              exact absurd H (by simp)
    · rw [if_neg c4] at H
      exact absurd H (by simp)
  · rw [if_neg c3] at H
    exact absurd H (by simp)
end Go.Proofs.YtdjnneflpkllmaaDoor.Q

namespace Go.Proofs.Num
open Go.RowKit Go.Proofs.YtdjnneflpkllmaaDoorW.PrintWords Go.Proofs.YtdjnneflpkllmaaDoorW.PrintMore Go.Proofs.YtdjnneflpkllmaaDoor.Q
set_option linter.unusedVariables false
set_option linter.unusedSimpArgs false
theorem same_l0 {l : List Int} (hs : l.length ≤ 4194304) : ∀ (c i : Nat), l.length - i = c → i ≤ l.length → Ev (fun k => merinolaw01_same.l0 k l l (i : Int)) true := by
  intro c
  induction c with
  | zero =>
    intro i hc hi
    exact Ev.step (f := fun _ => some true) (fun k => by rw [merinolaw01_same.l0, if_neg (by omega)]) (Ev.now _)
  | succ c ih =>
    intro i hc hi
    refine Ev.step (f := fun k => merinolaw01_same.l0 k l l ((i + 1 : Nat) : Int)) (fun k => ?_) (ih (i + 1) (by omega) (by omega))
    rw [merinolaw01_same.l0, if_pos (by omega), if_pos (by omega), if_pos (by omega), if_pos rfl, wd64 (x := (i : Int) + 1) (by omega) (by omega)]
    rfl
theorem same_ok {l : List Int} (hs : l.length ≤ 4194304) : Ev (fun k => merinolaw01_same.f k l l) true := by
  have : (fun k => merinolaw01_same.f k l l) = fun k => merinolaw01_same.l0 k l l ((0 : Nat) : Int) := funext fun k => by unfold merinolaw01_same.f; rw [if_pos rfl]; rfl
  rw [this]
  exact same_l0 hs l.length 0 rfl (by omega)
/-- What stands in the copy behind i rounds. -/
def part (l : List Int) (i : Nat) : List Int := (l ++ [77, 77]).take i ++ List.replicate (l.length + 2 - i) 0
theorem part_step (l : List Int) {i : Nat} (h : i < l.length + 2) : ((part l i).set i ((l ++ [77, 77]).getD i 0)) = part l (i + 1) := by
  have hl : (l ++ [77, 77]).length = l.length + 2 := by simp
  unfold part
  apply List.ext_getElem?
  intro j
  rw [List.getElem?_set]
  have e : ((l ++ [77, 77]).take i).length = i := by rw [List.length_take]; omega
  have e1 : ((l ++ [77, 77]).take (i + 1)).length = i + 1 := by rw [List.length_take]; omega
  rcases Nat.lt_trichotomy i j with hj | hj | hj
  · rw [if_neg (by omega), List.getElem?_append_right (by omega), List.getElem?_append_right (by omega), List.getElem?_replicate, List.getElem?_replicate, e, e1]
    by_cases c : j - i < l.length + 2 - i
    · rw [if_pos c, if_pos (by omega)]
    · rw [if_neg c, if_neg (by omega)]
  · subst hj
    rw [if_pos rfl, if_pos (by simp; omega), List.getElem?_append_left (by omega), List.getElem?_take_of_lt (by omega), List.getElem?_eq_getElem (by omega), List.getD_eq_getElem?_getD, List.getElem?_eq_getElem (by omega)]
    rfl
  · rw [if_neg (by omega), List.getElem?_append_left (by omega), List.getElem?_append_left (by omega), List.getElem?_take_of_lt hj, List.getElem?_take_of_lt (by omega)]
theorem full_l0 {l : List Int} (hs : l.length ≤ 4194304) : ∀ (c i : Nat), l.length + 2 - i = c → i ≤ l.length + 2 → Ev (fun k => merinolaw01_fullc.l0 k l (part l i) (i : Int)) (l ++ [77, 77]) := by
  have hl : ∀ i, i ≤ l.length + 2 → (part l i).length = l.length + 2 := fun i hi => by unfold part; simp; omega
  intro c
  induction c with
  | zero =>
    intro i hc hi
    obtain rfl : i = l.length + 2 := by omega
    have e : part l (l.length + 2) = l ++ [77, 77] := by unfold part; rw [List.take_of_length_le (by simp)]; simp
    refine Ev.step (f := fun _ => some (l ++ [77, 77])) (fun k => ?_) (Ev.now _)
    rw [merinolaw01_fullc.l0, if_neg (by rw [hl _ hi]; omega), if_pos (by omega), if_pos (by rw [hl _ hi]; omega), e]
  | succ c ih =>
    intro i hc hi
    refine Ev.step (f := fun k => merinolaw01_fullc.l0 k l (part l (i + 1)) ((i + 1 : Nat) : Int)) (fun k => ?_) (ih (i + 1) (by omega) (by omega))
    rw [merinolaw01_fullc.l0, if_pos (by rw [hl _ (by omega)]; omega), if_pos (by omega), wd64 (x := (i : Int) + 1) (by omega) (by omega)]
    simp only [Option.bind_some, Int.toNat_natCast]
    rw [← part_step l (by omega)]
    by_cases h : (i : Int) < (l.length : Int)
    · rw [if_pos h, List.set_set, rd_nat]
      have : (l ++ [77, 77]).getD i 0 = at_ l i := by
        unfold at_
        rw [List.getD_eq_getElem?_getD, List.getD_eq_getElem?_getD, List.getElem?_append_left (by omega)]
      rw [this]
      rfl
    · rw [if_neg h]
      have : (l ++ [77, 77]).getD i 0 = 77 := by
        rw [List.getD_eq_getElem?_getD, List.getElem?_append_right (by omega)]
        rcases (show i - l.length = 0 ∨ i - l.length = 1 by omega) with e | e <;> rw [e] <;> rfl
      rw [this]
      rfl
theorem full_ok {l : List Int} (hs : l.length ≤ 4194304) : Ev (fun k => merinolaw01_fullc.f k l) (l ++ [77, 77]) := by
  have : (fun k => merinolaw01_fullc.f k l) = fun k => merinolaw01_fullc.l0 k l (part l 0) ((0 : Nat) : Int) := funext fun k => by
    unfold merinolaw01_fullc.f
    rw [wd64 (x := (l.length : Int) + 2) (by omega) (by omega), if_pos (by omega), if_pos (by omega), show ((l.length : Int) + 2).toNat = l.length + 2 by omega]
    unfold part
    simp
  rw [this]
  exact full_l0 hs (l.length + 2) 0 rfl (by omega)
end Go.Proofs.Num
