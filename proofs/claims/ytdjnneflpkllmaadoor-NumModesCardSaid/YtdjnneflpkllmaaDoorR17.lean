-- printed
import Derived.Test.YtdjnneflpkllmaaDoorRx0
import Derived.Test.YtdjnneflpkllmaaDoorR7
namespace Go.Proofs.YtdjnneflpkllmaaDoor.Q
open Go.RowKit Go.Proofs.YtdjnneflpkllmaaDoorW.PrintWords Go.Proofs.YtdjnneflpkllmaaDoorW.PrintLast Go.Proofs.YtdjnneflpkllmaaDoorW.PrintMore
attribute [local go_sem] max2_int min2_int max_two min_two max_three min_three max_four min_four   -- for this text's walks alone
set_option linter.unusedVariables false
set_option linter.unusedSimpArgs false

/-! ### num_mode: function 85 -/
def num_mode.f (a0 : Int) : Option (Bool) := if a0 ≥ 0 then (some (decide (a0 ≤ 4))) else (some false)
set_option maxHeartbeats 8000000 in
set_option maxRecDepth 100000 in
theorem num_mode.calls (a0 : Int) (r : Bool) (w : World) (h : num_mode.f a0 = some r) :
    Calls Tryd.prog 85 #[.int .i64 a0] w fun e w' => e = .returned (.bool r) ∧ Drawn0 w w' := by
  have H : (if a0 ≥ 0 then (some (decide (a0 ≤ 4))) else (some false)) = some r := h
  clear h
  by_cases c2 : a0 ≥ 0
  · rw [if_pos c2] at H
    have c2b0 : decide (0 ≤ a0) = true := decide_eq_true c2
    clear c2
    obtain rfl := Option.some.inj H
    go_enter Tryd.func85, Tryd.ntmps85
    go_wp2
    go_ret
    exact ⟨by first | rfl | (simp; done) | (simp [*]; done), by repeat (first | exact Drawn0.refl _ | apply Drawn0.step)⟩
  · rw [if_neg c2] at H
    have c2b0 : decide (0 ≤ a0) = false := decide_eq_false c2
    clear c2
    obtain rfl := Option.some.inj H
    go_enter Tryd.func85, Tryd.ntmps85
    go_wp2
    go_ret
    exact ⟨by first | rfl | (simp; done) | (simp [*]; done), by repeat (first | exact Drawn0.refl _ | apply Drawn0.step)⟩

/-! ### num_away: function 113 -/
def num_away.f (a0 : Bool) (a1 : Int) (a2 : Int) (a3 : Int) (a4 : Int) : Option (Bool) := if a2 = 0 then (some false) else (if a4 = 0 then (some a0) else (if a4 = 1 then (some (!a0)) else (if a4 = 2 then (some false) else (if a2 > (IntKind.u64.wrap (a3 - a2)) then (some true) else (if a2 < (IntKind.u64.wrap (a3 - a2)) then (some false) else (if a4 = 3 then (some (!a0)) else (some ((Int.tmod a1 2) == 1))))))))
set_option maxHeartbeats 8000000 in
set_option maxRecDepth 100000 in
theorem num_away.calls (a0 : Bool) (a1 : Int) (a2 : Int) (a3 : Int) (a4 : Int) (r : Bool) (w : World) (h : num_away.f a0 a1 a2 a3 a4 = some r) :
    Calls Tryd.prog 113 #[.bool a0, .int .u64 a1, .int .u64 a2, .int .u64 a3, .int .i64 a4] w fun e w' => e = .returned (.bool r) ∧ Drawn0 w w' := by
  have H : (if a2 = 0 then (some false) else (if a4 = 0 then (some a0) else (if a4 = 1 then (some (!a0)) else (if a4 = 2 then (some false) else (if a2 > (IntKind.u64.wrap (a3 - a2)) then (some true) else (if a2 < (IntKind.u64.wrap (a3 - a2)) then (some false) else (if a4 = 3 then (some (!a0)) else (some ((Int.tmod a1 2) == 1))))))))) = some r := h
  clear h
  by_cases c6 : a2 = 0
  · rw [if_pos c6] at H
    have c6b0 : (a2 == 0) = true := beq_iff_eq.mpr c6
    have c6b1 : (a2 != 0) = false := bne_eq_false_iff_eq.mpr c6
    clear c6
    obtain rfl := Option.some.inj H
    go_enter Tryd.func113, Tryd.ntmps113
    go_wp2
    go_ret
    exact ⟨by first | rfl | (simp; done) | (simp [*]; done), by repeat (first | exact Drawn0.refl _ | apply Drawn0.step)⟩
  · rw [if_neg c6] at H
    have c6b0 : (a2 == 0) = false := beq_eq_false_iff_ne.mpr c6
    have c6b1 : (a2 != 0) = true := bne_iff_ne.mpr c6
    by_cases c7 : a4 = 0
    · rw [if_pos c7] at H
      have c7b0 : (a4 == 0) = true := beq_iff_eq.mpr c7
      have c7b1 : (a4 != 0) = false := bne_eq_false_iff_eq.mpr c7
      clear c7
      obtain rfl := Option.some.inj H
      go_enter Tryd.func113, Tryd.ntmps113
      go_wp2
      go_ret
      exact ⟨by first | rfl | (simp; done) | (simp [*]; done), by repeat (first | exact Drawn0.refl _ | apply Drawn0.step)⟩
    · rw [if_neg c7] at H
      have c7b0 : (a4 == 0) = false := beq_eq_false_iff_ne.mpr c7
      have c7b1 : (a4 != 0) = true := bne_iff_ne.mpr c7
      by_cases c8 : a4 = 1
      · rw [if_pos c8] at H
        have c8b0 : (a4 == 1) = true := beq_iff_eq.mpr c8
        have c8b1 : (a4 != 1) = false := bne_eq_false_iff_eq.mpr c8
        clear c8
        obtain rfl := Option.some.inj H
        go_enter Tryd.func113, Tryd.ntmps113
        go_wp2
        go_ret
        exact ⟨by first | rfl | (simp; done) | (simp [*]; done), by repeat (first | exact Drawn0.refl _ | apply Drawn0.step)⟩
      · rw [if_neg c8] at H
        have c8b0 : (a4 == 1) = false := beq_eq_false_iff_ne.mpr c8
        have c8b1 : (a4 != 1) = true := bne_iff_ne.mpr c8
        by_cases c9 : a4 = 2
        · rw [if_pos c9] at H
          have c9b0 : (a4 == 2) = true := beq_iff_eq.mpr c9
          have c9b1 : (a4 != 2) = false := bne_eq_false_iff_eq.mpr c9
          clear c9
          obtain rfl := Option.some.inj H
          go_enter Tryd.func113, Tryd.ntmps113
          go_wp2
          go_ret
          exact ⟨by first | rfl | (simp; done) | (simp [*]; done), by repeat (first | exact Drawn0.refl _ | apply Drawn0.step)⟩
        · rw [if_neg c9] at H
          have c9b0 : (a4 == 2) = false := beq_eq_false_iff_ne.mpr c9
          have c9b1 : (a4 != 2) = true := bne_iff_ne.mpr c9
          by_cases c10 : a2 > (IntKind.u64.wrap (a3 - a2))
          · rw [if_pos c10] at H
            have c10b0 : decide ((IntKind.u64.wrap (a3 - a2)) < a2) = true := decide_eq_true c10
            clear c10
            obtain rfl := Option.some.inj H
            go_enter Tryd.func113, Tryd.ntmps113
            go_wp2
            go_ret
            exact ⟨by first | rfl | (simp; done) | (simp [*]; done), by repeat (first | exact Drawn0.refl _ | apply Drawn0.step)⟩
          · rw [if_neg c10] at H
            have c10b0 : decide ((IntKind.u64.wrap (a3 - a2)) < a2) = false := decide_eq_false c10
            clear c10
            by_cases c11 : a2 < (IntKind.u64.wrap (a3 - a2))
            · rw [if_pos c11] at H
              have c11b0 : decide (a2 < (IntKind.u64.wrap (a3 - a2))) = true := decide_eq_true c11
              clear c11
              obtain rfl := Option.some.inj H
              go_enter Tryd.func113, Tryd.ntmps113
              go_wp2
              go_ret
              exact ⟨by first | rfl | (simp; done) | (simp [*]; done), by repeat (first | exact Drawn0.refl _ | apply Drawn0.step)⟩
            · rw [if_neg c11] at H
              have c11b0 : decide (a2 < (IntKind.u64.wrap (a3 - a2))) = false := decide_eq_false c11
              clear c11
              by_cases c12 : a4 = 3
              · rw [if_pos c12] at H
                have c12b0 : (a4 == 3) = true := beq_iff_eq.mpr c12
                have c12b1 : (a4 != 3) = false := bne_eq_false_iff_eq.mpr c12
                clear c12
                obtain rfl := Option.some.inj H
                go_enter Tryd.func113, Tryd.ntmps113
                go_wp2
                go_ret
                exact ⟨by first | rfl | (simp; done) | (simp [*]; done), by repeat (first | exact Drawn0.refl _ | apply Drawn0.step)⟩
              · rw [if_neg c12] at H
                have c12b0 : (a4 == 3) = false := beq_eq_false_iff_ne.mpr c12
                have c12b1 : (a4 != 3) = true := bne_iff_ne.mpr c12
                obtain rfl := Option.some.inj H
                go_enter Tryd.func113, Tryd.ntmps113
                go_wp2
                go_ret
                exact ⟨by first | rfl | (simp; done) | (simp [*]; done), by repeat (first | exact Drawn0.refl _ | apply Drawn0.step)⟩

/-! ### num_rounded: function 86 -/
def num_rounded.f (k : Nat) (a0 : Bool) (a1 : Int) (a2 : Int) (a3 : Int) (a4 : Int) : Option (Int × Bool) := if a1 ≥ a3 then (some (0, false)) else ((bits_Div64.f k a1 a2 a3).bind fun bt700 => (if bt700.1 > 4611686018427387904 then (some (0, false)) else ((num_away.f a0 bt700.1 bt700.2 a3 a4).bind fun t702 => (if t702 = true then (if a0 = true then (some (wrap64 (-(wrap64 (IntKind.u64.wrap (bt700.1 + 1)))), true)) else (some (wrap64 (IntKind.u64.wrap (bt700.1 + 1)), true))) else (if a0 = true then (some (wrap64 (-(wrap64 (bt700.1))), true)) else (some (wrap64 (bt700.1), true)))))))
theorem num_rounded.mono : ∀ a0 a1 a2 a3 a4 k, LeO (num_rounded.f k a0 a1 a2 a3 a4) (num_rounded.f (k + 1) a0 a1 a2 a3 a4) := by
  intro a0 a1 a2 a3 a4 k
  unfold num_rounded.f
  repeat' first
      | (with_reducible exact bits_Div64.mono _ _ _ _)
      | (with_reducible exact LeO.refl _)
      | (with_reducible exact LeO.none _)
      | (with_reducible refine LeO.ite ?_ ?_)
      | (with_reducible refine LeO.bind ?_ (fun _ => ?_))
      | exact bits_Div64.mono _ _ _ _
      | exact LeO.none _
      | refine LeO.ite ?_ ?_
      | refine LeO.bind ?_ (fun _ => ?_)
set_option maxHeartbeats 8000000 in
set_option maxRecDepth 100000 in
theorem num_rounded.calls (k : Nat) (a0 : Bool) (a1 : Int) (a2 : Int) (a3 : Int) (a4 : Int) (r1 : Int) (r2 : Bool) (w : World) (h : num_rounded.f k a0 a1 a2 a3 a4 = some (r1, r2)) :
    Calls Tryd.prog 86 #[.bool a0, .int .u64 a1, .int .u64 a2, .int .u64 a3, .int .i64 a4] w fun e w' => e = .returned (.tuple #[.int .i64 r1, .bool r2]) ∧ Drawn0 w w' := by
  have H : (if a1 ≥ a3 then (some (0, false)) else ((bits_Div64.f k a1 a2 a3).bind fun bt700 => (if bt700.1 > 4611686018427387904 then (some (0, false)) else ((num_away.f a0 bt700.1 bt700.2 a3 a4).bind fun t702 => (if t702 = true then (if a0 = true then (some (wrap64 (-(wrap64 (IntKind.u64.wrap (bt700.1 + 1)))), true)) else (some (wrap64 (IntKind.u64.wrap (bt700.1 + 1)), true))) else (if a0 = true then (some (wrap64 (-(wrap64 (bt700.1))), true)) else (some (wrap64 (bt700.1), true)))))))) = some (r1, r2) := h
  clear h
  by_cases c6 : a1 ≥ a3
  · rw [if_pos c6] at H
    have c6b0 : decide (a3 ≤ a1) = true := decide_eq_true c6
    clear c6
    simp only [Option.some.injEq, Prod.mk.injEq] at H
    obtain ⟨rfl, rfl⟩ := H
    go_enter Tryd.func86, Tryd.ntmps86
    go_wp2
    go_ret2
    exact ⟨by first | rfl | (simp; done) | (simp [*]; done), by repeat (first | exact Drawn0.refl _ | apply Drawn0.step)⟩
  · rw [if_neg c6] at H
    have c6b0 : decide (a3 ≤ a1) = false := decide_eq_false c6
    clear c6
    replace H := Option.bind_eq_some_iff.mp H
    obtain ⟨⟨t700, t701⟩, A70, H⟩ := H
    replace H : (if t700 > 4611686018427387904 then (some (0, false)) else ((num_away.f a0 t700 t701 a3 a4).bind fun t702 => (if t702 = true then (if a0 = true then (some (wrap64 (-(wrap64 (IntKind.u64.wrap (t700 + 1)))), true)) else (some (wrap64 (IntKind.u64.wrap (t700 + 1)), true))) else (if a0 = true then (some (wrap64 (-(wrap64 (t700))), true)) else (some (wrap64 (t700), true)))))) = some (r1, r2) := H
    have A7 := Aside0.mk A70
    clear A70
    by_cases c8 : t700 > 4611686018427387904
    · rw [if_pos c8] at H
      have c8b0 : decide (4611686018427387904 < t700) = true := decide_eq_true c8
      clear c8
      simp only [Option.some.injEq, Prod.mk.injEq] at H
      obtain ⟨rfl, rfl⟩ := H
      go_enter Tryd.func86, Tryd.ntmps86
      go_wp2_with (first | ((with_reducible refine gate_callee (f := 112) rfl ?_); refine goesL_ (some 21) rfl rfl Tryd.func112 (by kernel_rfl) rfl #[.int .u64 a1, .int .u64 a2, .int .u64 a3] rfl (by (try simp only [List.map_toArray, List.map_cons, List.map_nil]); first | done | rfl | (simp only [List.length_drop, List.length_take]; rfl)) ?_; (with_reducible refine (bits_Div64.calls k a1 a2 a3 t700 t701 _ A7.out).mono ?_); rintro e w' ⟨rfl, ⟨nd, rfl⟩⟩; refine ⟨_, rfl, ?_⟩))
      go_ret2
      exact ⟨by first | rfl | (simp; done) | (simp [*]; done), by repeat (first | exact Drawn0.refl _ | apply Drawn0.step)⟩
    · rw [if_neg c8] at H
      have c8b0 : decide (4611686018427387904 < t700) = false := decide_eq_false c8
      clear c8
      replace H := Option.bind_eq_some_iff.mp H
      obtain ⟨t702, A90, H⟩ := H
      replace H : (if t702 = true then (if a0 = true then (some (wrap64 (-(wrap64 (IntKind.u64.wrap (t700 + 1)))), true)) else (some (wrap64 (IntKind.u64.wrap (t700 + 1)), true))) else (if a0 = true then (some (wrap64 (-(wrap64 (t700))), true)) else (some (wrap64 (t700), true)))) = some (r1, r2) := H
      have A9 := Aside0.mk A90
      clear A90
      by_cases c10 : t702 = true
      · subst c10
        have H1 : (if a0 = true then (some (wrap64 (-(wrap64 (IntKind.u64.wrap (t700 + 1)))), true)) else (some (wrap64 (IntKind.u64.wrap (t700 + 1)), true))) = some (r1, r2) := by rw [if_pos rfl] at H; exact H
        clear H
        have H := H1
        clear H1
        by_cases c11 : a0 = true
        · subst c11
          have H1 : (some (wrap64 (-(wrap64 (IntKind.u64.wrap (t700 + 1)))), true)) = some (r1, r2) := by rw [if_pos rfl] at H; exact H
          clear H
          have H := H1
          clear H1
          simp only [Option.some.injEq, Prod.mk.injEq] at H
          obtain ⟨rfl, rfl⟩ := H
          go_enter Tryd.func86, Tryd.ntmps86
          go_wp2_with (first | ((with_reducible refine gate_callee (f := 112) rfl ?_); refine goesL_ (some 21) rfl rfl Tryd.func112 (by kernel_rfl) rfl #[.int .u64 a1, .int .u64 a2, .int .u64 a3] rfl (by (try simp only [List.map_toArray, List.map_cons, List.map_nil]); first | done | rfl | (simp only [List.length_drop, List.length_take]; rfl)) ?_; (with_reducible refine (bits_Div64.calls k a1 a2 a3 t700 t701 _ A7.out).mono ?_); rintro e w' ⟨rfl, ⟨nd, rfl⟩⟩; refine ⟨_, rfl, ?_⟩) | ((with_reducible refine gate_callee (f := 113) rfl ?_); refine goesL_ (some 31) rfl rfl Tryd.func113 (by kernel_rfl) rfl #[.bool true, .int .u64 t700, .int .u64 t701, .int .u64 a3, .int .i64 a4] rfl (by (try simp only [List.map_toArray, List.map_cons, List.map_nil]); first | done | rfl | (simp only [List.length_drop, List.length_take]; rfl)) ?_; (with_reducible refine (num_away.calls true t700 t701 a3 a4 true _ A9.out).mono ?_); rintro e w' ⟨rfl, ⟨nd, rfl⟩⟩; refine ⟨_, rfl, ?_⟩))
          go_ret2
          exact ⟨by first | rfl | (simp; done) | (simp [*]; done), by repeat (first | exact Drawn0.refl _ | apply Drawn0.step)⟩
        · replace c11 := Bool.eq_false_iff.mpr c11
          subst c11
          have H1 : (some (wrap64 (IntKind.u64.wrap (t700 + 1)), true)) = some (r1, r2) := by rw [if_neg (show ¬ (false = true) by decide)] at H; exact H
          clear H
          have H := H1
          clear H1
          simp only [Option.some.injEq, Prod.mk.injEq] at H
          obtain ⟨rfl, rfl⟩ := H
          go_enter Tryd.func86, Tryd.ntmps86
          go_wp2_with (first | ((with_reducible refine gate_callee (f := 112) rfl ?_); refine goesL_ (some 21) rfl rfl Tryd.func112 (by kernel_rfl) rfl #[.int .u64 a1, .int .u64 a2, .int .u64 a3] rfl (by (try simp only [List.map_toArray, List.map_cons, List.map_nil]); first | done | rfl | (simp only [List.length_drop, List.length_take]; rfl)) ?_; (with_reducible refine (bits_Div64.calls k a1 a2 a3 t700 t701 _ A7.out).mono ?_); rintro e w' ⟨rfl, ⟨nd, rfl⟩⟩; refine ⟨_, rfl, ?_⟩) | ((with_reducible refine gate_callee (f := 113) rfl ?_); refine goesL_ (some 31) rfl rfl Tryd.func113 (by kernel_rfl) rfl #[.bool false, .int .u64 t700, .int .u64 t701, .int .u64 a3, .int .i64 a4] rfl (by (try simp only [List.map_toArray, List.map_cons, List.map_nil]); first | done | rfl | (simp only [List.length_drop, List.length_take]; rfl)) ?_; (with_reducible refine (num_away.calls false t700 t701 a3 a4 true _ A9.out).mono ?_); rintro e w' ⟨rfl, ⟨nd, rfl⟩⟩; refine ⟨_, rfl, ?_⟩))
          go_ret2
          exact ⟨by first | rfl | (simp; done) | (simp [*]; done), by repeat (first | exact Drawn0.refl _ | apply Drawn0.step)⟩
      · replace c10 := Bool.eq_false_iff.mpr c10
        subst c10
        have H1 : (if a0 = true then (some (wrap64 (-(wrap64 (t700))), true)) else (some (wrap64 (t700), true))) = some (r1, r2) := by rw [if_neg (show ¬ (false = true) by decide)] at H; exact H
        clear H
        have H := H1
        clear H1
        by_cases c12 : a0 = true
        · subst c12
          have H1 : (some (wrap64 (-(wrap64 (t700))), true)) = some (r1, r2) := by rw [if_pos rfl] at H; exact H
          clear H
          have H := H1
          clear H1
          simp only [Option.some.injEq, Prod.mk.injEq] at H
          obtain ⟨rfl, rfl⟩ := H
          go_enter Tryd.func86, Tryd.ntmps86
          go_wp2_with (first | ((with_reducible refine gate_callee (f := 112) rfl ?_); refine goesL_ (some 21) rfl rfl Tryd.func112 (by kernel_rfl) rfl #[.int .u64 a1, .int .u64 a2, .int .u64 a3] rfl (by (try simp only [List.map_toArray, List.map_cons, List.map_nil]); first | done | rfl | (simp only [List.length_drop, List.length_take]; rfl)) ?_; (with_reducible refine (bits_Div64.calls k a1 a2 a3 t700 t701 _ A7.out).mono ?_); rintro e w' ⟨rfl, ⟨nd, rfl⟩⟩; refine ⟨_, rfl, ?_⟩) | ((with_reducible refine gate_callee (f := 113) rfl ?_); refine goesL_ (some 31) rfl rfl Tryd.func113 (by kernel_rfl) rfl #[.bool true, .int .u64 t700, .int .u64 t701, .int .u64 a3, .int .i64 a4] rfl (by (try simp only [List.map_toArray, List.map_cons, List.map_nil]); first | done | rfl | (simp only [List.length_drop, List.length_take]; rfl)) ?_; (with_reducible refine (num_away.calls true t700 t701 a3 a4 false _ A9.out).mono ?_); rintro e w' ⟨rfl, ⟨nd, rfl⟩⟩; refine ⟨_, rfl, ?_⟩))
          go_ret2
          exact ⟨by first | rfl | (simp; done) | (simp [*]; done), by repeat (first | exact Drawn0.refl _ | apply Drawn0.step)⟩
        · replace c12 := Bool.eq_false_iff.mpr c12
          subst c12
          have H1 : (some (wrap64 (t700), true)) = some (r1, r2) := by rw [if_neg (show ¬ (false = true) by decide)] at H; exact H
          clear H
          have H := H1
          clear H1
          simp only [Option.some.injEq, Prod.mk.injEq] at H
          obtain ⟨rfl, rfl⟩ := H
          go_enter Tryd.func86, Tryd.ntmps86
          go_wp2_with (first | ((with_reducible refine gate_callee (f := 112) rfl ?_); refine goesL_ (some 21) rfl rfl Tryd.func112 (by kernel_rfl) rfl #[.int .u64 a1, .int .u64 a2, .int .u64 a3] rfl (by (try simp only [List.map_toArray, List.map_cons, List.map_nil]); first | done | rfl | (simp only [List.length_drop, List.length_take]; rfl)) ?_; (with_reducible refine (bits_Div64.calls k a1 a2 a3 t700 t701 _ A7.out).mono ?_); rintro e w' ⟨rfl, ⟨nd, rfl⟩⟩; refine ⟨_, rfl, ?_⟩) | ((with_reducible refine gate_callee (f := 113) rfl ?_); refine goesL_ (some 31) rfl rfl Tryd.func113 (by kernel_rfl) rfl #[.bool false, .int .u64 t700, .int .u64 t701, .int .u64 a3, .int .i64 a4] rfl (by (try simp only [List.map_toArray, List.map_cons, List.map_nil]); first | done | rfl | (simp only [List.length_drop, List.length_take]; rfl)) ?_; (with_reducible refine (num_away.calls false t700 t701 a3 a4 false _ A9.out).mono ?_); rintro e w' ⟨rfl, ⟨nd, rfl⟩⟩; refine ⟨_, rfl, ?_⟩))
          go_ret2
          exact ⟨by first | rfl | (simp; done) | (simp [*]; done), by repeat (first | exact Drawn0.refl _ | apply Drawn0.step)⟩
end Go.Proofs.YtdjnneflpkllmaaDoor.Q
