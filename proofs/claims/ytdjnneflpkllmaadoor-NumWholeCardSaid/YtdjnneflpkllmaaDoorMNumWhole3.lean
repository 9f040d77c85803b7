/- Part 3 of the proof of NumWhole. -/
import Derived.Test.YtdjnneflpkllmaaDoorMNumWhole2

namespace Go.Proofs.YtdjnneflpkllmaaDoor.Q
open Go.RowKit Go.Proofs.YtdjnneflpkllmaaDoorW.PrintWords Go.Proofs.YtdjnneflpkllmaaDoorW.PrintLast Go.Proofs.YtdjnneflpkllmaaDoorW.PrintMore
attribute [local go_sem] max2_int min2_int max_two min_two max_three min_three max_four min_four
set_option linter.unusedVariables false
set_option linter.unusedSimpArgs false
def cmp_Or_int.l0 : Nat → Int → List Int → Int → Int → Option (Int)
 | 0, _, _, _, _ => none
 | k + 1, x3, x6, x7, x8 => if x8 < x7 then (if 0 ≤ x8 then (if x8 < (x6.length : Int) then (if (rd x6 x8) = x3 then (cmp_Or_int.l0 k x3 x6 x7 (wrap64 (x8 + 1))) else (some (rd x6 x8))) else (none)) else (none)) else (some x3)
def cmp_Or_int.f (k : Nat) (l0 : List Int) : Option (Int) := cmp_Or_int.l0 k 0 l0 (l0.length : Int) 0
set_option maxHeartbeats 8000000 in
set_option maxRecDepth 100000 in
theorem cmp_Or_int.calls (k : Nat) (A0 : Option Addr) (c0 : Nat) (l0 : List Int) (r : Int) (w : World) (hr0 : Kd.C (Kd.int .i64) w A0 l0.length l0) (hc0 : l0.length ≤ c0) (h : cmp_Or_int.f k l0 = some r) :
  Calls Tryd.prog 115 #[.slice A0 l0.length c0] w fun e w' => e = .returned (.int .i64 r) ∧ Drawn0 w w' := by
 have HR0 := Aside0.mk hr0
 have HC0 := Aside0.mk hc0
 clear hr0 hc0
 have H : (cmp_Or_int.l0 k 0 l0 (l0.length : Int) 0) = some r := h
 clear h
 have H' := Aside0.mk H
 clear H
 go_enter Tryd.func115, Tryd.ntmps115
 go_wp2
 go_loopg [8] k (fun kq v8 w' => ∃ (x8_1 : Int), v8 = .int .i64 x8_1 ∧ Aside0 (cmp_Or_int.l0 kq 0 l0 (l0.length : Int) x8_1 = some r) ∧ Aside0 (kq ≤ k) ∧ Drawn0 w w')
 case atStart => exact ⟨(0), (by first | rfl | (simp; done) | (simp [*]; done)), H', ⟨Nat.le_refl _⟩, by repeat (first | exact Drawn0.refl _ | apply Drawn0.step)⟩
 case round =>
  clear H'
  try clear c1
  obtain ⟨x8_1, rfl, HA, HK1, ⟨m1, rfl⟩⟩ := hrel
  cases gk with
  | zero => exact absurd HA.out (by simp [cmp_Or_int.l0])
  | succ k1 =>
   have H := HA.out
   clear HA
   simp only [cmp_Or_int.l0] at H
   by_cases c2 : x8_1 < (l0.length : Int)
   ·rw [if_pos c2] at H
    have c2b0 : decide (x8_1 < (l0.length : Int)) = true := decide_eq_true c2
    clear c2
    by_cases c3 : 0 ≤ x8_1
    ·rw [if_pos c3] at H
     have c3b0 : decide (0 ≤ x8_1) = true := decide_eq_true c3
     clear c3
     by_cases c4 : x8_1 < (l0.length : Int)
     ·rw [if_pos c4] at H
      have c4b0 : decide (x8_1 < (l0.length : Int)) = true := decide_eq_true c4
      clear c4
      by_cases c5 : (rd l0 x8_1) = 0
      ·rw [if_pos c5] at H
       have c5b0 : ((rd l0 x8_1) == 0) = true := beq_iff_eq.mpr c5
       have c5b1 : ((rd l0 x8_1) != 0) = false := bne_eq_false_iff_eq.mpr c5
       clear c5
       have H' := Aside0.mk H
       clear H
       have p749 : 0 ≤ (x8_1 : Int) := od_
       have q749 : x8_1 < (l0.length : Int) := od_
       obtain ⟨ad749, e749, hx749_0⟩ := Kd.at_int HR0.out x8_1 p749 q749
       cases e749
       replace p749 := eq_true p749
       replace q749 := eq_true q749
       go_wp2
       go_roundg k1
       case measure => have := HK1.out; omega
       case rel => exact ⟨(wrap64 (x8_1 + 1)), (by first | rfl | (simp; done) | (simp [*]; done)), H', ⟨by have := HK1.out; omega⟩, by repeat (first | exact Drawn0.refl _ | apply Drawn0.step)⟩
      ·rw [if_neg c5] at H
       have c5b0 : ((rd l0 x8_1) == 0) = false := beq_eq_false_iff_ne.mpr c5
       have c5b1 : ((rd l0 x8_1) != 0) = true := bne_iff_ne.mpr c5
       obtain rfl := Option.some.inj H
       have p749 : 0 ≤ (x8_1 : Int) := od_
       have q749 : x8_1 < (l0.length : Int) := od_
       obtain ⟨ad749, e749, hx749_0⟩ := Kd.at_int HR0.out x8_1 p749 q749
       cases e749
       replace p749 := eq_true p749
       replace q749 := eq_true q749
       go_wp2
       go_ret
       exact ⟨by first | rfl | (simp; done) | (simp [*]; done), by repeat (first | exact Drawn0.refl _ | apply Drawn0.step)⟩
     ·rw [if_neg c4] at H
      exact absurd H (by simp)
    ·rw [if_neg c3] at H
     exact absurd H (by simp)
   ·rw [if_neg c2] at H
    have c2b0 : decide (x8_1 < (l0.length : Int)) = false := decide_eq_false c2
    clear c2
    obtain rfl := Option.some.inj H
    go_wp2
    go_ret
    exact ⟨by first | rfl | (simp; done) | (simp [*]; done), by repeat (first | exact Drawn0.refl _ | apply Drawn0.step)⟩
def cmp_isNaN_uint64.f (a0 : Int) : Option (Bool) := some (a0 != a0)
set_option maxHeartbeats 8000000 in
set_option maxRecDepth 100000 in
theorem cmp_isNaN_uint64.calls (a0 : Int) (r : Bool) (w : World) (h : cmp_isNaN_uint64.f a0 = some r) :
  Calls Tryd.prog 127 #[.int .u64 a0] w fun e w' => e = .returned (.bool r) ∧ Drawn0 w w' := by
 have H : (some (a0 != a0)) = some r := h
 clear h
 obtain rfl := Option.some.inj H
 go_enter Tryd.func127, Tryd.ntmps127
 go_wp2
 go_ret
 exact ⟨by first | rfl | (simp; done) | (simp [*]; done), by repeat (first | exact Drawn0.refl _ | apply Drawn0.step)⟩
def cmp_Compare_uint64.f (a0 : Int) (a1 : Int) : Option (Int) := (cmp_isNaN_uint64.f a0).bind fun t750 => ((cmp_isNaN_uint64.f a1).bind fun t751 => (if t750 = true then (if t751 = true then (some 0) else (some (-1))) else (if t751 = true then (some 1) else (if a0 < a1 then (some (-1)) else (if a0 > a1 then (some 1) else (some 0))))))
set_option maxHeartbeats 8000000 in
set_option maxRecDepth 100000 in
theorem cmp_Compare_uint64.calls (a0 : Int) (a1 : Int) (r : Int) (w : World) (h : cmp_Compare_uint64.f a0 a1 = some r) :
  Calls Tryd.prog 116 #[.int .u64 a0, .int .u64 a1] w fun e w' => e = .returned (.int .i64 r) ∧ Drawn0 w w' := by
 have H : ((cmp_isNaN_uint64.f a0).bind fun t750 => ((cmp_isNaN_uint64.f a1).bind fun t751 => (if t750 = true then (if t751 = true then (some 0) else (some (-1))) else (if t751 = true then (some 1) else (if a0 < a1 then (some (-1)) else (if a0 > a1 then (some 1) else (some 0))))))) = some r := h
 clear h
 replace H := Option.bind_eq_some_iff.mp H
 obtain ⟨t750, A30, H⟩ := H
 replace H : ((cmp_isNaN_uint64.f a1).bind fun t751 => (if t750 = true then (if t751 = true then (some 0) else (some (-1))) else (if t751 = true then (some 1) else (if a0 < a1 then (some (-1)) else (if a0 > a1 then (some 1) else (some 0)))))) = some r := H
 have A3 := Aside0.mk A30
 clear A30
 replace H := Option.bind_eq_some_iff.mp H
 obtain ⟨t751, A40, H⟩ := H
 replace H : (if t750 = true then (if t751 = true then (some 0) else (some (-1))) else (if t751 = true then (some 1) else (if a0 < a1 then (some (-1)) else (if a0 > a1 then (some 1) else (some 0))))) = some r := H
 have A4 := Aside0.mk A40
 clear A40
 by_cases c5 : t750 = true
 ·subst c5
  have H1 : (if t751 = true then (some 0) else (some (-1))) = some r := by rw [if_pos rfl] at H; exact H
  clear H
  have H := H1
  clear H1
  by_cases c6 : t751 = true
  ·subst c6
   have H1 : (some 0) = some r := by rw [if_pos rfl] at H; exact H
   clear H
   have H := H1
   clear H1
   obtain rfl := Option.some.inj H
   go_enter Tryd.func116, Tryd.ntmps116
   go_wp2_with (first | ((with_reducible refine gate_callee (f := 127) rfl ?_); refine goesL_ (some 8) rfl rfl Tryd.func127 (by kernel_rfl) rfl #[.int .u64 a0] rfl qe_ ?_; (with_reducible refine (cmp_isNaN_uint64.calls a0 true _ A3.out).mono ?_); rintro e w' ⟨rfl, ⟨nd, rfl⟩⟩; refine ⟨_, rfl, ?_⟩) | ((with_reducible refine gate_callee (f := 127) rfl ?_); refine goesL_ (some 10) rfl rfl Tryd.func127 (by kernel_rfl) rfl #[.int .u64 a1] rfl qe_ ?_; (with_reducible refine (cmp_isNaN_uint64.calls a1 true _ A4.out).mono ?_); rintro e w' ⟨rfl, ⟨nd, rfl⟩⟩; refine ⟨_, rfl, ?_⟩))
   go_ret
   exact ⟨by first | rfl | (simp; done) | (simp [*]; done), by repeat (first | exact Drawn0.refl _ | apply Drawn0.step)⟩
  ·replace c6 := Bool.eq_false_iff.mpr c6
   subst c6
   have H1 : (some (-1)) = some r := by rw [if_neg (show ¬ (false = true) by decide)] at H; exact H
   clear H
   have H := H1
   clear H1
   obtain rfl := Option.some.inj H
   go_enter Tryd.func116, Tryd.ntmps116
   go_wp2_with (first | ((with_reducible refine gate_callee (f := 127) rfl ?_); refine goesL_ (some 8) rfl rfl Tryd.func127 (by kernel_rfl) rfl #[.int .u64 a0] rfl qe_ ?_; (with_reducible refine (cmp_isNaN_uint64.calls a0 true _ A3.out).mono ?_); rintro e w' ⟨rfl, ⟨nd, rfl⟩⟩; refine ⟨_, rfl, ?_⟩) | ((with_reducible refine gate_callee (f := 127) rfl ?_); refine goesL_ (some 10) rfl rfl Tryd.func127 (by kernel_rfl) rfl #[.int .u64 a1] rfl qe_ ?_; (with_reducible refine (cmp_isNaN_uint64.calls a1 false _ A4.out).mono ?_); rintro e w' ⟨rfl, ⟨nd, rfl⟩⟩; refine ⟨_, rfl, ?_⟩))
   go_ret
   exact ⟨by first | rfl | (simp; done) | (simp [*]; done), by repeat (first | exact Drawn0.refl _ | apply Drawn0.step)⟩
 ·replace c5 := Bool.eq_false_iff.mpr c5
  subst c5
  have H1 : (if t751 = true then (some 1) else (if a0 < a1 then (some (-1)) else (if a0 > a1 then (some 1) else (some 0)))) = some r := by rw [if_neg (show ¬ (false = true) by decide)] at H; exact H
  clear H
  have H := H1
  clear H1
  by_cases c7 : t751 = true
  ·subst c7
   have H1 : (some 1) = some r := by rw [if_pos rfl] at H; exact H
   clear H
   have H := H1
   clear H1
   obtain rfl := Option.some.inj H
   go_enter Tryd.func116, Tryd.ntmps116
   go_wp2_with (first | ((with_reducible refine gate_callee (f := 127) rfl ?_); refine goesL_ (some 8) rfl rfl Tryd.func127 (by kernel_rfl) rfl #[.int .u64 a0] rfl qe_ ?_; (with_reducible refine (cmp_isNaN_uint64.calls a0 false _ A3.out).mono ?_); rintro e w' ⟨rfl, ⟨nd, rfl⟩⟩; refine ⟨_, rfl, ?_⟩) | ((with_reducible refine gate_callee (f := 127) rfl ?_); refine goesL_ (some 10) rfl rfl Tryd.func127 (by kernel_rfl) rfl #[.int .u64 a1] rfl qe_ ?_; (with_reducible refine (cmp_isNaN_uint64.calls a1 true _ A4.out).mono ?_); rintro e w' ⟨rfl, ⟨nd, rfl⟩⟩; refine ⟨_, rfl, ?_⟩))
   go_ret
   exact ⟨by first | rfl | (simp; done) | (simp [*]; done), by repeat (first | exact Drawn0.refl _ | apply Drawn0.step)⟩
  ·replace c7 := Bool.eq_false_iff.mpr c7
   subst c7
   have H1 : (if a0 < a1 then (some (-1)) else (if a0 > a1 then (some 1) else (some 0))) = some r := by rw [if_neg (show ¬ (false = true) by decide)] at H; exact H
   clear H
   have H := H1
   clear H1
   by_cases c8 : a0 < a1
   ·rw [if_pos c8] at H
    have c8b0 : decide (a0 < a1) = true := decide_eq_true c8
    clear c8
    obtain rfl := Option.some.inj H
    go_enter Tryd.func116, Tryd.ntmps116
    go_wp2_with (first | ((with_reducible refine gate_callee (f := 127) rfl ?_); refine goesL_ (some 8) rfl rfl Tryd.func127 (by kernel_rfl) rfl #[.int .u64 a0] rfl qe_ ?_; (with_reducible refine (cmp_isNaN_uint64.calls a0 false _ A3.out).mono ?_); rintro e w' ⟨rfl, ⟨nd, rfl⟩⟩; refine ⟨_, rfl, ?_⟩) | ((with_reducible refine gate_callee (f := 127) rfl ?_); refine goesL_ (some 10) rfl rfl Tryd.func127 (by kernel_rfl) rfl #[.int .u64 a1] rfl qe_ ?_; (with_reducible refine (cmp_isNaN_uint64.calls a1 false _ A4.out).mono ?_); rintro e w' ⟨rfl, ⟨nd, rfl⟩⟩; refine ⟨_, rfl, ?_⟩))
    go_ret
    exact ⟨by first | rfl | (simp; done) | (simp [*]; done), by repeat (first | exact Drawn0.refl _ | apply Drawn0.step)⟩
   ·rw [if_neg c8] at H
    have c8b0 : decide (a0 < a1) = false := decide_eq_false c8
    clear c8
    by_cases c9 : a0 > a1
    ·rw [if_pos c9] at H
     have c9b0 : decide (a1 < a0) = true := decide_eq_true c9
     clear c9
     obtain rfl := Option.some.inj H
     go_enter Tryd.func116, Tryd.ntmps116
     go_wp2_with (first | ((with_reducible refine gate_callee (f := 127) rfl ?_); refine goesL_ (some 8) rfl rfl Tryd.func127 (by kernel_rfl) rfl #[.int .u64 a0] rfl qe_ ?_; (with_reducible refine (cmp_isNaN_uint64.calls a0 false _ A3.out).mono ?_); rintro e w' ⟨rfl, ⟨nd, rfl⟩⟩; refine ⟨_, rfl, ?_⟩) | ((with_reducible refine gate_callee (f := 127) rfl ?_); refine goesL_ (some 10) rfl rfl Tryd.func127 (by kernel_rfl) rfl #[.int .u64 a1] rfl qe_ ?_; (with_reducible refine (cmp_isNaN_uint64.calls a1 false _ A4.out).mono ?_); rintro e w' ⟨rfl, ⟨nd, rfl⟩⟩; refine ⟨_, rfl, ?_⟩))
     go_ret
     exact ⟨by first | rfl | (simp; done) | (simp [*]; done), by repeat (first | exact Drawn0.refl _ | apply Drawn0.step)⟩
    ·rw [if_neg c9] at H
     have c9b0 : decide (a1 < a0) = false := decide_eq_false c9
     clear c9
     obtain rfl := Option.some.inj H
     go_enter Tryd.func116, Tryd.ntmps116
     go_wp2_with (first | ((with_reducible refine gate_callee (f := 127) rfl ?_); refine goesL_ (some 8) rfl rfl Tryd.func127 (by kernel_rfl) rfl #[.int .u64 a0] rfl qe_ ?_; (with_reducible refine (cmp_isNaN_uint64.calls a0 false _ A3.out).mono ?_); rintro e w' ⟨rfl, ⟨nd, rfl⟩⟩; refine ⟨_, rfl, ?_⟩) | ((with_reducible refine gate_callee (f := 127) rfl ?_); refine goesL_ (some 10) rfl rfl Tryd.func127 (by kernel_rfl) rfl #[.int .u64 a1] rfl qe_ ?_; (with_reducible refine (cmp_isNaN_uint64.calls a1 false _ A4.out).mono ?_); rintro e w' ⟨rfl, ⟨nd, rfl⟩⟩; refine ⟨_, rfl, ?_⟩))
     go_ret
     exact ⟨by first | rfl | (simp; done) | (simp [*]; done), by repeat (first | exact Drawn0.refl _ | apply Drawn0.step)⟩
def num_before.f (k : Nat) (a0 : Int) (a1 : Int) (a2 : Int) (a3 : Int) : Option (Int) := (bits_Mul64.f (IntKind.u64.wrap (a0)) (IntKind.u64.wrap (a3))).bind fun bt752 => ((bits_Mul64.f (IntKind.u64.wrap (a2)) (IntKind.u64.wrap (a1))).bind fun bt754 => ((cmp_Compare_uint64.f bt752.1 bt754.1).bind fun t756 => ((cmp_Compare_uint64.f bt752.2 bt754.2).bind fun t757 => ((cmp_Or_int.f k (([t756, t757] : List Int))).bind fun t761 => (some t761)))))
set_option maxHeartbeats 8000000 in
set_option maxRecDepth 100000 in
theorem num_before.calls (k : Nat) (a0 : Int) (a1 : Int) (a2 : Int) (a3 : Int) (r : Int) (w : World) (h : num_before.f k a0 a1 a2 a3 = some r) :
  Calls Tryd.prog 89 #[.int .i64 a0, .int .i64 a1, .int .i64 a2, .int .i64 a3] w fun e w' => e = .returned (.int .i64 r) ∧ Below w.heap.size w w' := by
 have HB := Aside0.mk (Below.refl w.heap.size w)
 have H : ((bits_Mul64.f (IntKind.u64.wrap (a0)) (IntKind.u64.wrap (a3))).bind fun bt752 => ((bits_Mul64.f (IntKind.u64.wrap (a2)) (IntKind.u64.wrap (a1))).bind fun bt754 => ((cmp_Compare_uint64.f bt752.1 bt754.1).bind fun t756 => ((cmp_Compare_uint64.f bt752.2 bt754.2).bind fun t757 => ((cmp_Or_int.f k (([t756, t757] : List Int))).bind fun t761 => (some t761)))))) = some r := h
 clear h
 replace H := Option.bind_eq_some_iff.mp H
 obtain ⟨⟨t752, t753⟩, A50, H⟩ := H
 replace H : ((bits_Mul64.f (IntKind.u64.wrap (a2)) (IntKind.u64.wrap (a1))).bind fun bt754 => ((cmp_Compare_uint64.f t752 bt754.1).bind fun t756 => ((cmp_Compare_uint64.f t753 bt754.2).bind fun t757 => ((cmp_Or_int.f k (([t756, t757] : List Int))).bind fun t761 => (some t761))))) = some r := H
 have A5 := Aside0.mk A50
 clear A50
 replace H := Option.bind_eq_some_iff.mp H
 obtain ⟨⟨t754, t755⟩, A60, H⟩ := H
 replace H : ((cmp_Compare_uint64.f t752 t754).bind fun t756 => ((cmp_Compare_uint64.f t753 t755).bind fun t757 => ((cmp_Or_int.f k (([t756, t757] : List Int))).bind fun t761 => (some t761)))) = some r := H
 have A6 := Aside0.mk A60
 clear A60
 replace H := Option.bind_eq_some_iff.mp H
 obtain ⟨t756, A70, H⟩ := H
 replace H : ((cmp_Compare_uint64.f t753 t755).bind fun t757 => ((cmp_Or_int.f k (([t756, t757] : List Int))).bind fun t761 => (some t761))) = some r := H
 have A7 := Aside0.mk A70
 clear A70
 replace H := Option.bind_eq_some_iff.mp H
 obtain ⟨t757, A80, H⟩ := H
 replace H : ((cmp_Or_int.f k (([t756, t757] : List Int))).bind fun t761 => (some t761)) = some r := H
 have A8 := Aside0.mk A80
 clear A80
 obtain ⟨y758, hy758⟩ : ∃ y_ : List Int, y_ = (([t756, t757] : List Int)) := ⟨_, rfl⟩
 replace H : ((cmp_Or_int.f k y758).bind fun t761 => (some t761)) = some r := by first | (rw [hy758]; with_reducible exact H) | (have H2_ := (Option.bind_some _ _).symm.trans H; rw [hy758]; with_reducible exact H2_) | (have H2_ := (Option.bind_some _ _).symm.trans H; with_reducible exact H2_) | with_reducible exact H | (rw [hy758]; exact H) | exact H
 have Ny758 := Aside0.mk hy758
 clear hy758
 replace H := Option.bind_eq_some_iff.mp H
 obtain ⟨t761, A90, H⟩ := H
 replace H : (some t761) = some r := H
 have A9 := Aside0.mk A90
 clear A90
 obtain rfl := Option.some.inj H
 go_enter Tryd.func89, Tryd.ntmps89
 go_wp2_with (first | ((with_reducible refine gate_callee (f := 114) rfl ?_); refine goesL_ (some 18) rfl rfl Tryd.func114 (by kernel_rfl) rfl #[.int .u64 (IntKind.u64.wrap (a0)), .int .u64 (IntKind.u64.wrap (a3))] rfl qe_ ?_; (with_reducible refine (bits_Mul64.calls (IntKind.u64.wrap (a0)) (IntKind.u64.wrap (a3)) t752 t753 _ A5.out).mono ?_); rintro e w' ⟨rfl, ⟨nd, rfl⟩⟩; refine ⟨_, rfl, ?_⟩) | ((with_reducible refine gate_callee (f := 114) rfl ?_); refine goesL_ (some 26) rfl rfl Tryd.func114 (by kernel_rfl) rfl #[.int .u64 (IntKind.u64.wrap (a2)), .int .u64 (IntKind.u64.wrap (a1))] rfl qe_ ?_; (with_reducible refine (bits_Mul64.calls (IntKind.u64.wrap (a2)) (IntKind.u64.wrap (a1)) t754 t755 _ A6.out).mono ?_); rintro e w' ⟨rfl, ⟨nd, rfl⟩⟩; refine ⟨_, rfl, ?_⟩) | ((with_reducible refine gate_callee (f := 116) rfl ?_); refine goesL_ (some 31) rfl rfl Tryd.func116 (by kernel_rfl) rfl #[.int .u64 t752, .int .u64 t754] rfl qe_ ?_; (with_reducible refine (cmp_Compare_uint64.calls t752 t754 t756 _ A7.out).mono ?_); rintro e w' ⟨rfl, ⟨nd, rfl⟩⟩; refine ⟨_, rfl, ?_⟩) | ((with_reducible refine gate_callee (f := 116) rfl ?_); refine goesL_ (some 34) rfl rfl Tryd.func116 (by kernel_rfl) rfl #[.int .u64 t753, .int .u64 t755] rfl qe_ ?_; (with_reducible refine (cmp_Compare_uint64.calls t753 t755 t757 _ A8.out).mono ?_); rintro e w' ⟨rfl, ⟨nd, rfl⟩⟩; refine ⟨_, rfl, ?_⟩) | ((with_reducible refine gate_dst (N := 35) rfl ?_); refine Kd.R_lit (Kd.int .i64) _ 3 ?hg (N := 35) ?hd (xs := ([t756, t757] : List Int)) (inner := [.int .i64 t756, .int .i64 t757]) (ok := fun _ => True) (okp := fun _ => True) ?hr ?hp (fun _ hk => hk) trivial (Below.refl _ _) (Nat.le_refl _) (by simp) ?_; (case hd => rfl); (case hg => rfl); (case hr => first | (go_simp; done) | (go_simp; rfl)); (case hp => exact (Reps.one (show Kd.M (Kd.int .i64) _ _ _ t756 [.int .i64 t756] from rfl) (Reps.one (show Kd.M (Kd.int .i64) _ _ _ t757 [.int .i64 t757] from rfl) (Reps.none _ _)))); intro v759 w10 ho11 hb hg_ hnew_; clear hg_ hnew_; (first | rw [← Ny758.out] at ho11 | (simp only [Int.reduceToNat] at ho11; rw [← Ny758.out] at ho11)); have n0_ := Aside0.mk (Kd.R_lower ho11 (below_size (q0_ HB.out))); have n1_ := Aside0.mk (below_step (q0_ HB.out) hb); clear HB; have HO760 := n0_; have HB := n1_; clear n0_ n1_; clear hb ho11; obtain ⟨Ao12, co12, eo12⟩ := Kd.R_slice HO760.out; subst eo12) | ((with_reducible refine gate_callee (f := 115) rfl ?_); refine goesL_ (some 36) rfl rfl Tryd.func115 (by kernel_rfl) rfl #[.slice Ao12 y758.length co12] rfl qe_ ?_; (with_reducible refine (cmp_Or_int.calls k _ _ y758 t761 _ ?side1 ?side2 A9.out).mono ?_); (case side1 => exact qc_ (Kd.R_reads' HO760.out).2.2); (case side2 => exact (Kd.R_reads' HO760.out).2.1); rintro e w' ⟨rfl, ⟨nd, rfl⟩⟩; refine ⟨_, rfl, ?_⟩))
 go_ret
 exact ⟨by first | rfl | (simp [errW_none, errW_some] <;> rfl) | (simp [*, errW_none, errW_some] <;> rfl), (q0_ HB.out)⟩
def num_next.l0 : Nat → List Int → List Int → Int → List Int → Int → Int → Option (Int)
 | 0, _, _, _, _, _, _ => none
 | k + 1, x0, x1, x5, x8, x9, x10 => if x10 < x9 then (if 0 ≤ x10 then (if x10 < (x8.length : Int) then (if (rd x8 x10) > 0 then (if x5 < 0 then (num_next.l0 k x0 x1 x10 x8 x9 (wrap64 (x10 + 1))) else (if x10 < (x0.length : Int) then (if 0 ≤ x5 then (if x5 < (x0.length : Int) then (if x5 < (x1.length : Int) then ((num_before.f k (wrap64 ((wrap64 (2 * (rd x0 x10))) + 1)) (rd x8 x10) (wrap64 ((wrap64 (2 * (rd x0 x5))) + 1)) (rd x1 x5)).bind fun t766 => (if t766 < 0 then (num_next.l0 k x0 x1 x10 x8 x9 (wrap64 (x10 + 1))) else (num_next.l0 k x0 x1 x5 x8 x9 (wrap64 (x10 + 1))))) else (none)) else (none)) else (none)) else (none))) else (num_next.l0 k x0 x1 x5 x8 x9 (wrap64 (x10 + 1)))) else (none)) else (none)) else (some x5)
def num_next.f (k : Nat) (l0 : List Int) (l1 : List Int) : Option (Int) := num_next.l0 k l0 l1 (-1) l1 (l1.length : Int) 0
def num_next.T5 : Bool × List (List Nat × List Nat) := (true, [([], []), ([0], [0]), ([1], [1]), ([2], [2]), ([3, 2], [2, 3]), ([4, 2, 2], [2, 4]), ([5], [5]), ([5], [5]), ([6, 7, 5], [5, 6, 7]), ([8, 5], [5, 8]), ([9, 5], [5, 9]), ([10, 5], [5, 10]), ([5], [5]), ([5], [5]), ([5], [5]), ([13, 14, 5], [5, 13, 14]), ([15, 5], [5, 15]), ([16, 5], [5, 16]), ([17, 5], [5, 17]), ([5], [5]), ([5], [5]), ([19, 20, 5], [5, 19, 20]), ([21, 5], [5, 21]), ([11, 12, 18, 22, 5, 5], [5, 11, 12, 18, 22]), ([23, 5], [5, 23]), ([5, 24, 2], [2, 5, 24]), ([2, 25], [2, 25])])
def num_next.B5 : List Nat := [0, 1, 3, 7, 15, 31, 63, 63, 255, 511, 1023, 2047, 63, 63, 63, 24639, 57407, 122943, 254015, 63, 63, 1572927, 3670079, 8388607, 16777215, 33554431, 67108863]
theorem num_next.tab5 : rtab .any (opsOf Tryd.f87 5) = num_next.T5 := by kernel_rfl
theorem num_next.bits5 : waitsOk num_next.T5.2 num_next.B5 = true := by kernel_rfl
set_option maxHeartbeats 8000000 in
set_option maxRecDepth 100000 in
theorem num_next.calls (k : Nat) (A0 : Option Addr) (c0 : Nat) (l0 : List Int) (A1 : Option Addr) (c1 : Nat) (l1 : List Int) (r : Int) (w : World) (hr0 : Kd.C (Kd.int .i64) w A0 l0.length l0) (hc0 : l0.length ≤ c0) (hr1 : Kd.C (Kd.int .i64) w A1 l1.length l1) (hc1 : l1.length ≤ c1) (h : num_next.f k l0 l1 = some r) :
  Calls Tryd.prog 87 #[.slice A0 l0.length c0, .slice A1 l1.length c1] w fun e w' => e = .returned (.int .i64 r) ∧ Below w.heap.size w w' := by
 have HR0 := Aside0.mk hr0
 have HC0 := Aside0.mk hc0
 clear hr0 hc0
 have HR1 := Aside0.mk hr1
 have HC1 := Aside0.mk hc1
 clear hr1 hc1
 have HB := Aside0.mk (Below.refl w.heap.size w)
 have H : (num_next.l0 k l0 l1 (-1) l1 (l1.length : Int) 0) = some r := h
 clear h
 have H' := Aside0.mk H
 clear H
 go_enter Tryd.func87, Tryd.ntmps87
 go_wp2
 go_loopg [5, 10] k (fun kq v5 v10 w' => ∃ (x5_1 : Int) (x10_1 : Int), v5 = .int .i64 x5_1 ∧ v10 = .int .i64 x10_1 ∧ Aside0 (num_next.l0 kq l0 l1 x5_1 l1 (l1.length : Int) x10_1 = some r) ∧ Aside0 (kq ≤ k) ∧ Aside0 (Below w.heap.size w w'))
 case atStart => exact ⟨((-1)), (0), (by first | rfl | (simp; done) | (simp [*]; done)), (by first | rfl | (simp; done) | (simp [*]; done)), H', ⟨Nat.le_refl _⟩, ⟨(q0_ HB.out)⟩⟩
 case round =>
  clear H'
  try clear c1
  try clear p2
  obtain ⟨x5_1, x10_1, rfl, rfl, HA, HK1, HB⟩ := hrel
  cases gk with
  | zero => exact absurd HA.out (by simp [num_next.l0])
  | succ k1 =>
   have H := HA.out
   clear HA
   simp only [num_next.l0] at H
   by_cases c3 : x10_1 < (l1.length : Int)
   ·rw [if_pos c3] at H
    have c3b0 : decide (x10_1 < (l1.length : Int)) = true := decide_eq_true c3
    clear c3
    by_cases c4 : 0 ≤ x10_1
    ·rw [if_pos c4] at H
     have c4b0 : decide (0 ≤ x10_1) = true := decide_eq_true c4
     clear c4
     by_cases c5 : x10_1 < (l1.length : Int)
     ·rw [if_pos c5] at H
      have c5b0 : decide (x10_1 < (l1.length : Int)) = true := decide_eq_true c5
      clear c5
      by_cases c6 : (rd l1 x10_1) > 0
      ·rw [if_pos c6] at H
       have c6b0 : decide (0 < (rd l1 x10_1)) = true := decide_eq_true c6
       clear c6
       by_cases c7 : x5_1 < 0
       ·rw [if_pos c7] at H
        have c7b0 : decide (x5_1 < 0) = true := decide_eq_true c7
        clear c7
        have H' := Aside0.mk H
        clear H
        have p762 : 0 ≤ (x10_1 : Int) := od_
        have q762 : x10_1 < (l1.length : Int) := od_
        obtain ⟨ad762, e762, hx762_0⟩ := Kd.at_int HR1.out x10_1 p762 q762
        cases e762
        replace hx762_0 := (HB.out.cell (World.block_lt_of_cell? w _ hx762_0)).trans hx762_0
        replace p762 := eq_true p762
        replace q762 := eq_true q762
        try go_wp2
        have n0_ := Aside0.mk (below_drew1 HB.out)
        clear HB
        have HB := n0_
        clear n0_
        refine start_ (n := 27) (S := fun w' => True) (ds := []) #[false, false, false, false, false, false, false, false, false, false, false, false, false, false, false, false, false, false, false, false, false, false, false, false, false, false, false] (by kernel_rfl) rfl rfl trivial (fun hHeld => ?_); refine with_tabW num_next.tab5 num_next.bits5 (fun HT_ HW_ => ?_)
        generalize wr.drew = w8 at HB hHeld ⊢
        refine pu_ 0 15 27 1 HT_.out ?_
        refine pu_ 1 16 27 3 HT_.out ?_
        refine pu_ 2 17 27 7 HT_.out ?_
        refine pu_ 3 18 27 15 HT_.out ?_
        refine pu_ 4 19 27 31 HT_.out ?_
        refine pu_ 5 20 27 63 HT_.out ?_
        refine pn_ 6 21 27 127 HT_.out ?_
        refine pn_ 7 22 27 255 HT_.out ?_
        refine pn_ 8 23 27 511 HT_.out ?_
        refine pn_ 9 24 27 1023 HT_.out ?_
        refine pn_ 10 25 27 2047 HT_.out ?_
        refine pn_ 11 26 27 4095 HT_.out ?_
        refine pn_ 12 27 27 8191 HT_.out ?_
        refine pn_ 13 28 27 16383 HT_.out ?_
        refine pn_ 14 29 27 32767 HT_.out ?_
        refine pn_ 15 30 27 65535 HT_.out ?_
        refine pn_ 16 31 27 131071 HT_.out ?_
        refine pn_ 17 32 27 262143 HT_.out ?_
        refine pn_ 18 33 27 524287 HT_.out ?_
        refine pn_ 19 34 27 1048575 HT_.out ?_
        refine pn_ 20 35 27 2097151 HT_.out ?_
        refine pn_ 21 36 27 4194303 HT_.out ?_
        refine pn_ 22 37 27 8388607 HT_.out ?_
        refine pn_ 23 38 27 16777215 HT_.out ?_
        refine pn_ 24 39 27 33554431 HT_.out ?_
        refine pu_ 25 40 27 67108863 HT_.out ?_
        refine pure_ (i := 26) (N := some 41) (v := ?_) (a' := ?_) #[true, true, true, true, true, true, true, true, true, true, true, true, true, true, true, true, true, true, true, true, true, true, true, true, true, true, true] rfl rfl (any_of HT_.out (by kernel_rfl)) (fun _ _ _ h => h) (Or.inl ⟨by rfl, ?_⟩) ?_ ?_
        rotate_left
        ·intro w'
         go_simp
         with_reducible rfl
        rotate_left
        ·simp only [Act.put, List.setIfInBounds_toArray, List.set_cons_zero, List.set_cons_succ, i64_w, i32_w]
         rfl
        refine done_ (done_of HT_.out (by kernel_rfl)) ?_
        try go_wp2
        go_roundg k1
        case measure => have := HK1.out; omega
        case rel => exact ⟨(x10_1), (wrap64 (x10_1 + 1)), (by first | rfl | (simp; done) | (simp [*]; done)), (by first | rfl | (simp; done) | (simp [*]; done)), H', ⟨by have := HK1.out; omega⟩, ⟨(q0_ HB.out)⟩⟩
       ·rw [if_neg c7] at H
        have c7b0 : decide (x5_1 < 0) = false := decide_eq_false c7
        clear c7
        by_cases c9 : x10_1 < (l0.length : Int)
        ·rw [if_pos c9] at H
         have c9b0 : decide (x10_1 < (l0.length : Int)) = true := decide_eq_true c9
         clear c9
         by_cases c10 : 0 ≤ x5_1
         ·rw [if_pos c10] at H
          have c10b0 : decide (0 ≤ x5_1) = true := decide_eq_true c10
          clear c10
          by_cases c11 : x5_1 < (l0.length : Int)
          ·rw [if_pos c11] at H
           have c11b0 : decide (x5_1 < (l0.length : Int)) = true := decide_eq_true c11
           clear c11
           by_cases c12 : x5_1 < (l1.length : Int)
           ·rw [if_pos c12] at H
            have c12b0 : decide (x5_1 < (l1.length : Int)) = true := decide_eq_true c12
            clear c12
            replace H := Option.bind_eq_some_iff.mp H
            obtain ⟨t766, A130, H⟩ := H
            replace H : (if t766 < 0 then (num_next.l0 k1 l0 l1 x10_1 l1 (l1.length : Int) (wrap64 (x10_1 + 1))) else (num_next.l0 k1 l0 l1 x5_1 l1 (l1.length : Int) (wrap64 (x10_1 + 1)))) = some r := H
            have A13 := Aside0.mk A130
            clear A130
            by_cases c14 : t766 < 0
            ·rw [if_pos c14] at H
             have c14b0 : decide (t766 < 0) = true := decide_eq_true c14
             clear c14
             have H' := Aside0.mk H
             clear H
             have p762 : 0 ≤ (x10_1 : Int) := od_
             have q762 : x10_1 < (l1.length : Int) := od_
             obtain ⟨ad762, e762, hx762_0⟩ := Kd.at_int HR1.out x10_1 p762 q762
             cases e762
             replace hx762_0 := (HB.out.cell (World.block_lt_of_cell? w _ hx762_0)).trans hx762_0
             replace p762 := eq_true p762
             replace q762 := eq_true q762
             try go_wp2
             have n0_ := Aside0.mk (below_drew1 HB.out)
             clear HB
             have HB := n0_
             clear n0_
             have p763 : 0 ≤ (x10_1 : Int) := od_
             have q763 : x10_1 < (l0.length : Int) := od_
             obtain ⟨ad763, e763, hx763_0⟩ := Kd.at_int HR0.out x10_1 p763 q763
             have hw763_0 := hx763_0
             cases e763
             replace hx763_0 := (HB.out.cell (World.block_lt_of_cell? w _ hx763_0)).trans hx763_0
             replace p763 := eq_true p763
             replace q763 := eq_true q763
             have p764 : 0 ≤ (x5_1 : Int) := od_
             have q764 : x5_1 < (l0.length : Int) := od_
             obtain ⟨ad764, e764, hx764_0⟩ := Kd.at_int HR0.out x5_1 p764 q764
             have hw764_0 := hx764_0
             obtain rfl : ad763 = ad764 := (by injection e764)
             replace hx764_0 := (HB.out.cell (World.block_lt_of_cell? w _ hx764_0)).trans hx764_0
             replace p764 := eq_true p764
             replace q764 := eq_true q764
             have p765 : 0 ≤ (x5_1 : Int) := od_
             have q765 : x5_1 < (l1.length : Int) := od_
             obtain ⟨ad765, e765, hx765_0⟩ := Kd.at_int HR1.out x5_1 p765 q765
             have hw765_0 := hx765_0
             obtain rfl : ad762 = ad765 := (by injection e765)
             replace hx765_0 := (HB.out.cell (World.block_lt_of_cell? w _ hx765_0)).trans hx765_0
             replace p765 := eq_true p765
             replace q765 := eq_true q765
             refine start_ (n := 27) (S := fun w' => w'.cell? (ad763.add (x10_1).toNat) = some (.int .i64 (rd l0 x10_1)) ∧ w'.cell? (ad763.add (x5_1).toNat) = some (.int .i64 (rd l0 x5_1)) ∧ w'.cell? (ad762.add (x5_1).toNat) = some (.int .i64 (rd l1 x5_1))) (ds := []) #[false, false, false, false, false, false, false, false, false, false, false, false, false, false, false, false, false, false, false, false, false, false, false, false, false, false, false] (by kernel_rfl) rfl rfl ⟨((HB.out.cell (World.block_lt_of_cell? w _ hw763_0)).trans hw763_0), ((HB.out.cell (World.block_lt_of_cell? w _ hw764_0)).trans hw764_0), ((HB.out.cell (World.block_lt_of_cell? w _ hw765_0)).trans hw765_0)⟩ (fun hHeld => ?_); refine with_tabW num_next.tab5 num_next.bits5 (fun HT_ HW_ => ?_)
             generalize wr.drew = w15 at HB hx763_0 hx764_0 hx765_0 hHeld ⊢
             refine pu_ 0 15 27 1 HT_.out ?_
             refine pu_ 1 16 27 3 HT_.out ?_
             refine pu_ 2 17 27 7 HT_.out ?_
             refine pu_ 3 18 27 15 HT_.out ?_
             refine pu_ 4 19 27 31 HT_.out ?_
             refine pu_ 5 20 27 63 HT_.out ?_
             refine pu_ 6 21 27 127 HT_.out ?_
             refine pu_ 7 22 27 255 HT_.out ?_
             refine pu_ 8 23 27 511 HT_.out ?_
             refine pu_ 12 27 27 4607 HT_.out ?_
             refine pu_ 13 28 27 12799 HT_.out ?_
             refine pu_ 14 29 27 29183 HT_.out ?_
             refine pu_ 15 30 27 61951 HT_.out ?_
             refine pu_ 19 34 27 586239 HT_.out ?_
             refine pu_ 20 35 27 1634815 HT_.out ?_
             refine pu_ 21 36 27 3731967 HT_.out ?_
             refine ta_ 9 24 27 3732479 rfl rfl HT_.out HW_.out hHeld (Or.inl ⟨by rfl, by rintro w' ⟨s0, s1, s2⟩; go_simp; with_reducible rfl⟩) ?_
             refine pu_ 10 25 27 3733503 HT_.out ?_
             refine pu_ 11 26 27 3735551 HT_.out ?_
             refine ta_ 16 31 27 3801087 rfl rfl HT_.out HW_.out hHeld (Or.inl ⟨by rfl, by rintro w' ⟨s0, s1, s2⟩; go_simp; with_reducible rfl⟩) ?_
             refine pu_ 17 32 27 3932159 HT_.out ?_
             refine pu_ 18 33 27 4194303 HT_.out ?_
             refine ta_ 22 37 27 8388607 rfl rfl HT_.out HW_.out hHeld (Or.inl ⟨by rfl, by rintro w' ⟨s0, s1, s2⟩; go_simp; with_reducible rfl⟩) ?_
             refine one_ (i := 23) (N := some 38) #[true, true, true, true, true, true, true, true, true, true, true, true, true, true, true, true, true, true, true, true, true, true, true, true, false, false, false] rfl rfl (one_of HT_.out (by kernel_rfl)) (by decide) (fun K hK => ?_)
             refine goes_ Tryd.func89 (by kernel_rfl) rfl #[.int .i64 (wrap64 ((wrap64 (2 * (rd l0 x10_1))) + 1)), .int .i64 (rd l1 x10_1), .int .i64 (wrap64 ((wrap64 (2 * (rd l0 x5_1))) + 1)), .int .i64 (rd l1 x5_1)] (by rfl) rfl rfl qe_ ?_
             with_reducible refine (num_before.calls k1 (wrap64 ((wrap64 (2 * (rd l0 x10_1))) + 1)) (rd l1 x10_1) (wrap64 ((wrap64 (2 * (rd l0 x5_1))) + 1)) (rd l1 x5_1) t766 _ A13.out).mono ?_
             rintro e w16 ⟨rfl, hb⟩
             refine ⟨_, rfl, ?_⟩
             have n0_ := Aside0.mk (below_step (q0_ HB.out) hb)
             clear HB
             have HB := n0_
             clear n0_
             (try clear hb)
             (try clear hb2)
             (try clear hk)
             (try clear hi)
             refine hK.out _ _ ⟨((HB.out.cell (World.block_lt_of_cell? w _ hw763_0)).trans hw763_0), ((HB.out.cell (World.block_lt_of_cell? w _ hw764_0)).trans hw764_0), ((HB.out.cell (World.block_lt_of_cell? w _ hw765_0)).trans hw765_0)⟩ (fun hHeld => ?_)
             clear hK K
             refine norm_ (a' := ?_) ?_ ?_
             rotate_left
             ·show Act.put _ (some 38) _ = _
              simp only [Act.put, List.setIfInBounds_toArray, List.set_cons_zero, List.set_cons_succ, i64_w, i32_w]
              rfl
             refine pu_ 24 39 27 33554431 HT_.out ?_
             refine pu_ 25 40 27 67108863 HT_.out ?_
             refine pure_ (i := 26) (N := some 41) (v := ?_) (a' := ?_) #[true, true, true, true, true, true, true, true, true, true, true, true, true, true, true, true, true, true, true, true, true, true, true, true, true, true, true] rfl rfl (any_of HT_.out (by kernel_rfl)) (fun _ _ _ h => h) (Or.inl ⟨by rfl, ?_⟩) ?_ ?_
             rotate_left
             ·intro w'
              go_simp
              with_reducible rfl
             rotate_left
             ·simp only [Act.put, List.setIfInBounds_toArray, List.set_cons_zero, List.set_cons_succ, i64_w, i32_w]
              rfl
             refine done_ (done_of HT_.out (by kernel_rfl)) ?_
             try go_wp2
             go_roundg k1
             case measure => have := HK1.out; omega
             case rel => exact ⟨(x10_1), (wrap64 (x10_1 + 1)), (by first | rfl | (simp; done) | (simp [*]; done)), (by first | rfl | (simp; done) | (simp [*]; done)), H', ⟨by have := HK1.out; omega⟩, ⟨(q0_ HB.out)⟩⟩
            ·rw [if_neg c14] at H
             have c14b0 : decide (t766 < 0) = false := decide_eq_false c14
             clear c14
             have H' := Aside0.mk H
             clear H
             have p762 : 0 ≤ (x10_1 : Int) := od_
             have q762 : x10_1 < (l1.length : Int) := od_
             obtain ⟨ad762, e762, hx762_0⟩ := Kd.at_int HR1.out x10_1 p762 q762
             cases e762
             replace hx762_0 := (HB.out.cell (World.block_lt_of_cell? w _ hx762_0)).trans hx762_0
             replace p762 := eq_true p762
             replace q762 := eq_true q762
             try go_wp2
             have n0_ := Aside0.mk (below_drew1 HB.out)
             clear HB
             have HB := n0_
             clear n0_
             have p763 : 0 ≤ (x10_1 : Int) := od_
             have q763 : x10_1 < (l0.length : Int) := od_
             obtain ⟨ad763, e763, hx763_0⟩ := Kd.at_int HR0.out x10_1 p763 q763
             have hw763_0 := hx763_0
             cases e763
             replace hx763_0 := (HB.out.cell (World.block_lt_of_cell? w _ hx763_0)).trans hx763_0
             replace p763 := eq_true p763
             replace q763 := eq_true q763
             have p764 : 0 ≤ (x5_1 : Int) := od_
             have q764 : x5_1 < (l0.length : Int) := od_
             obtain ⟨ad764, e764, hx764_0⟩ := Kd.at_int HR0.out x5_1 p764 q764
             have hw764_0 := hx764_0
             obtain rfl : ad763 = ad764 := (by injection e764)
             replace hx764_0 := (HB.out.cell (World.block_lt_of_cell? w _ hx764_0)).trans hx764_0
             replace p764 := eq_true p764
             replace q764 := eq_true q764
             have p765 : 0 ≤ (x5_1 : Int) := od_
             have q765 : x5_1 < (l1.length : Int) := od_
             obtain ⟨ad765, e765, hx765_0⟩ := Kd.at_int HR1.out x5_1 p765 q765
             have hw765_0 := hx765_0
             obtain rfl : ad762 = ad765 := (by injection e765)
             replace hx765_0 := (HB.out.cell (World.block_lt_of_cell? w _ hx765_0)).trans hx765_0
             replace p765 := eq_true p765
             replace q765 := eq_true q765
             refine start_ (n := 27) (S := fun w' => w'.cell? (ad763.add (x10_1).toNat) = some (.int .i64 (rd l0 x10_1)) ∧ w'.cell? (ad763.add (x5_1).toNat) = some (.int .i64 (rd l0 x5_1)) ∧ w'.cell? (ad762.add (x5_1).toNat) = some (.int .i64 (rd l1 x5_1))) (ds := []) #[false, false, false, false, false, false, false, false, false, false, false, false, false, false, false, false, false, false, false, false, false, false, false, false, false, false, false] (by kernel_rfl) rfl rfl ⟨((HB.out.cell (World.block_lt_of_cell? w _ hw763_0)).trans hw763_0), ((HB.out.cell (World.block_lt_of_cell? w _ hw764_0)).trans hw764_0), ((HB.out.cell (World.block_lt_of_cell? w _ hw765_0)).trans hw765_0)⟩ (fun hHeld => ?_); refine with_tabW num_next.tab5 num_next.bits5 (fun HT_ HW_ => ?_)
             generalize wr.drew = w17 at HB hx763_0 hx764_0 hx765_0 hHeld ⊢
             refine pu_ 0 15 27 1 HT_.out ?_
             refine pu_ 1 16 27 3 HT_.out ?_
             refine pu_ 2 17 27 7 HT_.out ?_
             refine pu_ 3 18 27 15 HT_.out ?_
             refine pu_ 4 19 27 31 HT_.out ?_
             refine pu_ 5 20 27 63 HT_.out ?_
             refine pu_ 6 21 27 127 HT_.out ?_
             refine pu_ 7 22 27 255 HT_.out ?_
             refine pu_ 8 23 27 511 HT_.out ?_
             refine pu_ 12 27 27 4607 HT_.out ?_
             refine pu_ 13 28 27 12799 HT_.out ?_
             refine pu_ 14 29 27 29183 HT_.out ?_
             refine pu_ 15 30 27 61951 HT_.out ?_
             refine pu_ 19 34 27 586239 HT_.out ?_
             refine pu_ 20 35 27 1634815 HT_.out ?_
             refine pu_ 21 36 27 3731967 HT_.out ?_
             refine ta_ 9 24 27 3732479 rfl rfl HT_.out HW_.out hHeld (Or.inl ⟨by rfl, by rintro w' ⟨s0, s1, s2⟩; go_simp; with_reducible rfl⟩) ?_
             refine pu_ 10 25 27 3733503 HT_.out ?_
             refine pu_ 11 26 27 3735551 HT_.out ?_
             refine ta_ 16 31 27 3801087 rfl rfl HT_.out HW_.out hHeld (Or.inl ⟨by rfl, by rintro w' ⟨s0, s1, s2⟩; go_simp; with_reducible rfl⟩) ?_
             refine pu_ 17 32 27 3932159 HT_.out ?_
             refine pu_ 18 33 27 4194303 HT_.out ?_
             refine ta_ 22 37 27 8388607 rfl rfl HT_.out HW_.out hHeld (Or.inl ⟨by rfl, by rintro w' ⟨s0, s1, s2⟩; go_simp; with_reducible rfl⟩) ?_
             refine one_ (i := 23) (N := some 38) #[true, true, true, true, true, true, true, true, true, true, true, true, true, true, true, true, true, true, true, true, true, true, true, true, false, false, false] rfl rfl (one_of HT_.out (by kernel_rfl)) (by decide) (fun K hK => ?_)
             refine goes_ Tryd.func89 (by kernel_rfl) rfl #[.int .i64 (wrap64 ((wrap64 (2 * (rd l0 x10_1))) + 1)), .int .i64 (rd l1 x10_1), .int .i64 (wrap64 ((wrap64 (2 * (rd l0 x5_1))) + 1)), .int .i64 (rd l1 x5_1)] (by rfl) rfl rfl qe_ ?_
             with_reducible refine (num_before.calls k1 (wrap64 ((wrap64 (2 * (rd l0 x10_1))) + 1)) (rd l1 x10_1) (wrap64 ((wrap64 (2 * (rd l0 x5_1))) + 1)) (rd l1 x5_1) t766 _ A13.out).mono ?_
             rintro e w18 ⟨rfl, hb⟩
             refine ⟨_, rfl, ?_⟩
             have n0_ := Aside0.mk (below_step (q0_ HB.out) hb)
             clear HB
             have HB := n0_
             clear n0_
             (try clear hb)
             (try clear hb2)
             (try clear hk)
             (try clear hi)
             refine hK.out _ _ ⟨((HB.out.cell (World.block_lt_of_cell? w _ hw763_0)).trans hw763_0), ((HB.out.cell (World.block_lt_of_cell? w _ hw764_0)).trans hw764_0), ((HB.out.cell (World.block_lt_of_cell? w _ hw765_0)).trans hw765_0)⟩ (fun hHeld => ?_)
             clear hK K
             refine norm_ (a' := ?_) ?_ ?_
             rotate_left
             ·show Act.put _ (some 38) _ = _
              simp only [Act.put, List.setIfInBounds_toArray, List.set_cons_zero, List.set_cons_succ, i64_w, i32_w]
              rfl
             refine pu_ 24 39 27 33554431 HT_.out ?_
             refine pu_ 25 40 27 67108863 HT_.out ?_
             refine pure_ (i := 26) (N := some 41) (v := ?_) (a' := ?_) #[true, true, true, true, true, true, true, true, true, true, true, true, true, true, true, true, true, true, true, true, true, true, true, true, true, true, true] rfl rfl (any_of HT_.out (by kernel_rfl)) (fun _ _ _ h => h) (Or.inl ⟨by rfl, ?_⟩) ?_ ?_
             rotate_left
             ·intro w'
              go_simp
              with_reducible rfl
             rotate_left
             ·simp only [Act.put, List.setIfInBounds_toArray, List.set_cons_zero, List.set_cons_succ, i64_w, i32_w]
              rfl
             refine done_ (done_of HT_.out (by kernel_rfl)) ?_
             try go_wp2
             go_roundg k1
             case measure => have := HK1.out; omega
             case rel => exact ⟨(x5_1), (wrap64 (x10_1 + 1)), (by first | rfl | (simp; done) | (simp [*]; done)), (by first | rfl | (simp; done) | (simp [*]; done)), H', ⟨by have := HK1.out; omega⟩, ⟨(q0_ HB.out)⟩⟩
           ·rw [if_neg c12] at H
            exact absurd H (by simp)
          ·rw [if_neg c11] at H
           exact absurd H (by simp)
         ·rw [if_neg c10] at H
          exact absurd H (by simp)
        ·rw [if_neg c9] at H
         exact absurd H (by simp)
      ·rw [if_neg c6] at H
       have c6b0 : decide (0 < (rd l1 x10_1)) = false := decide_eq_false c6
       clear c6
       have H' := Aside0.mk H
       clear H
       have p762 : 0 ≤ (x10_1 : Int) := od_
       have q762 : x10_1 < (l1.length : Int) := od_
       obtain ⟨ad762, e762, hx762_0⟩ := Kd.at_int HR1.out x10_1 p762 q762
       cases e762
       replace hx762_0 := (HB.out.cell (World.block_lt_of_cell? w _ hx762_0)).trans hx762_0
       replace p762 := eq_true p762
       replace q762 := eq_true q762
       try go_wp2
       have n0_ := Aside0.mk (below_drew1 HB.out)
       clear HB
       have HB := n0_
       clear n0_
       refine start_ (n := 27) (S := fun w' => True) (ds := []) #[false, false, false, false, false, false, false, false, false, false, false, false, false, false, false, false, false, false, false, false, false, false, false, false, false, false, false] (by kernel_rfl) rfl rfl trivial (fun hHeld => ?_); refine with_tabW num_next.tab5 num_next.bits5 (fun HT_ HW_ => ?_)
       generalize wr.drew = w19 at HB hHeld ⊢
       refine pu_ 0 15 27 1 HT_.out ?_
       refine pu_ 1 16 27 3 HT_.out ?_
       refine pu_ 2 17 27 7 HT_.out ?_
       refine pn_ 3 18 27 15 HT_.out ?_
       refine pn_ 4 19 27 31 HT_.out ?_
       refine pn_ 5 20 27 63 HT_.out ?_
       refine pn_ 6 21 27 127 HT_.out ?_
       refine pn_ 7 22 27 255 HT_.out ?_
       refine pn_ 8 23 27 511 HT_.out ?_
       refine pn_ 9 24 27 1023 HT_.out ?_
       refine pn_ 10 25 27 2047 HT_.out ?_
       refine pn_ 11 26 27 4095 HT_.out ?_
       refine pn_ 12 27 27 8191 HT_.out ?_
       refine pn_ 13 28 27 16383 HT_.out ?_
       refine pn_ 14 29 27 32767 HT_.out ?_
       refine pn_ 15 30 27 65535 HT_.out ?_
       refine pn_ 16 31 27 131071 HT_.out ?_
       refine pn_ 17 32 27 262143 HT_.out ?_
       refine pn_ 18 33 27 524287 HT_.out ?_
       refine pn_ 19 34 27 1048575 HT_.out ?_
       refine pn_ 20 35 27 2097151 HT_.out ?_
       refine pn_ 21 36 27 4194303 HT_.out ?_
       refine pn_ 22 37 27 8388607 HT_.out ?_
       refine pn_ 23 38 27 16777215 HT_.out ?_
       refine pn_ 24 39 27 33554431 HT_.out ?_
       refine pn_ 25 40 27 67108863 HT_.out ?_
       refine pure_ (i := 26) (N := some 41) (v := ?_) (a' := ?_) #[true, true, true, true, true, true, true, true, true, true, true, true, true, true, true, true, true, true, true, true, true, true, true, true, true, true, true] rfl rfl (any_of HT_.out (by kernel_rfl)) (fun _ _ _ h => h) (Or.inl ⟨by rfl, ?_⟩) ?_ ?_
       rotate_left
       ·intro w'
        go_simp
        with_reducible rfl
       rotate_left
       ·simp only [Act.put, List.setIfInBounds_toArray, List.set_cons_zero, List.set_cons_succ, i64_w, i32_w]
        rfl
       refine done_ (done_of HT_.out (by kernel_rfl)) ?_
       try go_wp2
       go_roundg k1
       case measure => have := HK1.out; omega
       case rel => exact ⟨(x5_1), (wrap64 (x10_1 + 1)), (by first | rfl | (simp; done) | (simp [*]; done)), (by first | rfl | (simp; done) | (simp [*]; done)), H', ⟨by have := HK1.out; omega⟩, ⟨(q0_ HB.out)⟩⟩
     ·rw [if_neg c5] at H
      exact absurd H (by simp)
    ·rw [if_neg c4] at H
     exact absurd H (by simp)
   ·rw [if_neg c3] at H
    have c3b0 : decide (x10_1 < (l1.length : Int)) = false := decide_eq_false c3
    clear c3
    obtain rfl := Option.some.inj H
    go_wp2
    go_ret
    exact ⟨by first | rfl | (simp [errW_none, errW_some] <;> rfl) | (simp [*, errW_none, errW_some] <;> rfl), (q0_ HB.out)⟩
def num_latest.l0 : Nat → List Int → List Int → Int → List Int → Int → Int → Option (Int)
 | 0, _, _, _, _, _, _ => none
 | k + 1, x0, x1, x5, x8, x9, x10 => if x10 < x9 then (if 0 ≤ x10 then (if x10 < (x8.length : Int) then (if (rd x8 x10) > 0 then (if x10 < (x0.length : Int) then (if (rd x0 x10) > 0 then (if x5 < 0 then (num_latest.l0 k x0 x1 x10 x8 x9 (wrap64 (x10 + 1))) else (if 0 ≤ x5 then (if x5 < (x0.length : Int) then (if x5 < (x1.length : Int) then ((num_before.f k (wrap64 ((wrap64 (2 * (rd x0 x10))) - 1)) (rd x8 x10) (wrap64 ((wrap64 (2 * (rd x0 x5))) - 1)) (rd x1 x5)).bind fun t772 => (if t772 ≥ 0 then (num_latest.l0 k x0 x1 x10 x8 x9 (wrap64 (x10 + 1))) else (num_latest.l0 k x0 x1 x5 x8 x9 (wrap64 (x10 + 1))))) else (none)) else (none)) else (none))) else (num_latest.l0 k x0 x1 x5 x8 x9 (wrap64 (x10 + 1)))) else (none)) else (num_latest.l0 k x0 x1 x5 x8 x9 (wrap64 (x10 + 1)))) else (none)) else (none)) else (some x5)
def num_latest.f (k : Nat) (l0 : List Int) (l1 : List Int) : Option (Int) := num_latest.l0 k l0 l1 (-1) l1 (l1.length : Int) 0
def num_latest.T5 : Bool × List (List Nat × List Nat) := (true, [([], []), ([0], [0]), ([1], [1]), ([2], [2]), ([2], [2]), ([3, 4, 2], [2, 3, 4]), ([5, 2], [2, 5]), ([6, 2], [2, 6]), ([2, 7], [2, 7]), ([8, 2], [8]), ([9], [9]), ([10, 9], [9, 10]), ([11, 9, 9], [9, 11]), ([12], [12]), ([12], [12]), ([13, 14, 12], [12, 13, 14]), ([15, 12], [12, 15]), ([16, 12], [12, 16]), ([17, 12], [12, 17]), ([12], [12]), ([12], [12]), ([12], [12]), ([20, 21, 12], [12, 20, 21]), ([22, 12], [12, 22]), ([23, 12], [12, 23]), ([24, 12], [12, 24]), ([12], [12]), ([12], [12]), ([26, 27, 12], [12, 26, 27]), ([28, 12], [12, 28]), ([18, 19, 25, 29, 12, 12], [12, 18, 19, 25, 29]), ([30, 12], [12, 30]), ([12, 31, 9], [9, 12, 31]), ([9, 32], [9, 32])])
def num_latest.B5 : List Nat := [0, 1, 3, 7, 7, 31, 63, 127, 255, 511, 1023, 2047, 4095, 8191, 8191, 32767, 65535, 131071, 262143, 8191, 8191, 8191, 3153919, 7348223, 15736831, 32514047, 8191, 8191, 201334783, 469770239, 1073741823, 2147483647, 4294967295, 8589934591]
theorem num_latest.tab5 : rtab .any (opsOf Tryd.f88 5) = num_latest.T5 := by kernel_rfl
theorem num_latest.bits5 : waitsOk num_latest.T5.2 num_latest.B5 = true := by kernel_rfl
set_option maxHeartbeats 8000000 in
set_option maxRecDepth 100000 in
theorem num_latest.calls (k : Nat) (A0 : Option Addr) (c0 : Nat) (l0 : List Int) (A1 : Option Addr) (c1 : Nat) (l1 : List Int) (r : Int) (w : World) (hr0 : Kd.C (Kd.int .i64) w A0 l0.length l0) (hc0 : l0.length ≤ c0) (hr1 : Kd.C (Kd.int .i64) w A1 l1.length l1) (hc1 : l1.length ≤ c1) (h : num_latest.f k l0 l1 = some r) :
  Calls Tryd.prog 88 #[.slice A0 l0.length c0, .slice A1 l1.length c1] w fun e w' => e = .returned (.int .i64 r) ∧ Below w.heap.size w w' := by
 have HR0 := Aside0.mk hr0
 have HC0 := Aside0.mk hc0
 clear hr0 hc0
 have HR1 := Aside0.mk hr1
 have HC1 := Aside0.mk hc1
 clear hr1 hc1
 have HB := Aside0.mk (Below.refl w.heap.size w)
 have H : (num_latest.l0 k l0 l1 (-1) l1 (l1.length : Int) 0) = some r := h
 clear h
 have H' := Aside0.mk H
 clear H
 go_enter Tryd.func88, Tryd.ntmps88
 go_wp2
 go_loopg [5, 10] k (fun kq v5 v10 w' => ∃ (x5_1 : Int) (x10_1 : Int), v5 = .int .i64 x5_1 ∧ v10 = .int .i64 x10_1 ∧ Aside0 (num_latest.l0 kq l0 l1 x5_1 l1 (l1.length : Int) x10_1 = some r) ∧ Aside0 (kq ≤ k) ∧ Aside0 (Below w.heap.size w w'))
 case atStart => exact ⟨((-1)), (0), (by first | rfl | (simp; done) | (simp [*]; done)), (by first | rfl | (simp; done) | (simp [*]; done)), H', ⟨Nat.le_refl _⟩, ⟨(q0_ HB.out)⟩⟩
 case round =>
  clear H'
  try clear c1
  try clear p2
  obtain ⟨x5_1, x10_1, rfl, rfl, HA, HK1, HB⟩ := hrel
  cases gk with
  | zero => exact absurd HA.out (by simp [num_latest.l0])
  | succ k1 =>
   have H := HA.out
   clear HA
   simp only [num_latest.l0] at H
   by_cases c3 : x10_1 < (l1.length : Int)
   ·rw [if_pos c3] at H
    have c3b0 : decide (x10_1 < (l1.length : Int)) = true := decide_eq_true c3
    clear c3
    by_cases c4 : 0 ≤ x10_1
    ·rw [if_pos c4] at H
     have c4b0 : decide (0 ≤ x10_1) = true := decide_eq_true c4
     clear c4
     by_cases c5 : x10_1 < (l1.length : Int)
     ·rw [if_pos c5] at H
      have c5b0 : decide (x10_1 < (l1.length : Int)) = true := decide_eq_true c5
      clear c5
      by_cases c6 : (rd l1 x10_1) > 0
      ·rw [if_pos c6] at H
       have c6b0 : decide (0 < (rd l1 x10_1)) = true := decide_eq_true c6
       clear c6
       by_cases c7 : x10_1 < (l0.length : Int)
       ·rw [if_pos c7] at H
        have c7b0 : decide (x10_1 < (l0.length : Int)) = true := decide_eq_true c7
        clear c7
        by_cases c8 : (rd l0 x10_1) > 0
        ·rw [if_pos c8] at H
         have c8b0 : decide (0 < (rd l0 x10_1)) = true := decide_eq_true c8
         clear c8
         by_cases c9 : x5_1 < 0
         ·rw [if_pos c9] at H
          have c9b0 : decide (x5_1 < 0) = true := decide_eq_true c9
          clear c9
          have H' := Aside0.mk H
          clear H
          have p767 : 0 ≤ (x10_1 : Int) := od_
          have q767 : x10_1 < (l1.length : Int) := od_
          obtain ⟨ad767, e767, hx767_0⟩ := Kd.at_int HR1.out x10_1 p767 q767
          cases e767
          replace hx767_0 := (HB.out.cell (World.block_lt_of_cell? w _ hx767_0)).trans hx767_0
          replace p767 := eq_true p767
          replace q767 := eq_true q767
          try go_wp2
          have n0_ := Aside0.mk (below_drew1 HB.out)
          clear HB
          have HB := n0_
          clear n0_
          have p768 : 0 ≤ (x10_1 : Int) := od_
          have q768 : x10_1 < (l0.length : Int) := od_
          obtain ⟨ad768, e768, hx768_0⟩ := Kd.at_int HR0.out x10_1 p768 q768
          have hw768_0 := hx768_0
          cases e768
          replace hx768_0 := (HB.out.cell (World.block_lt_of_cell? w _ hx768_0)).trans hx768_0
          replace p768 := eq_true p768
          replace q768 := eq_true q768
          refine start_ (n := 34) (S := fun w' => w'.cell? (ad768.add (x10_1).toNat) = some (.int .i64 (rd l0 x10_1))) (ds := []) #[false, false, false, false, false, false, false, false, false, false, false, false, false, false, false, false, false, false, false, false, false, false, false, false, false, false, false, false, false, false, false, false, false, false] (by kernel_rfl) rfl rfl (((HB.out.cell (World.block_lt_of_cell? w _ hw768_0)).trans hw768_0)) (fun hHeld => ?_); refine with_tabW num_latest.tab5 num_latest.bits5 (fun HT_ HW_ => ?_)
          generalize wr.drew = w10 at HB hx768_0 hHeld ⊢
          refine pu_ 0 15 34 1 HT_.out ?_
          refine pu_ 1 16 34 3 HT_.out ?_
          refine pu_ 2 17 34 7 HT_.out ?_
          refine pu_ 3 18 34 15 HT_.out ?_
          refine pu_ 4 19 34 31 HT_.out ?_
          refine pu_ 5 20 34 63 HT_.out ?_
          refine ta_ 6 21 34 127 rfl rfl HT_.out HW_.out hHeld (Or.inl ⟨by rfl, by intro w' s0; go_simp; with_reducible rfl⟩) ?_
          refine pu_ 7 22 34 255 HT_.out ?_
          refine pu_ 8 23 34 511 HT_.out ?_
          refine pu_ 9 24 34 1023 HT_.out ?_
          refine pu_ 10 25 34 2047 HT_.out ?_
          refine pu_ 11 26 34 4095 HT_.out ?_
          refine pu_ 12 27 34 8191 HT_.out ?_
          refine pn_ 13 28 34 16383 HT_.out ?_
          refine pn_ 14 29 34 32767 HT_.out ?_
          refine pn_ 15 30 34 65535 HT_.out ?_
          refine pn_ 16 31 34 131071 HT_.out ?_
          refine pn_ 17 32 34 262143 HT_.out ?_
          refine pn_ 18 33 34 524287 HT_.out ?_
          refine pn_ 19 34 34 1048575 HT_.out ?_
          refine pn_ 20 35 34 2097151 HT_.out ?_
          refine pn_ 21 36 34 4194303 HT_.out ?_
          refine pn_ 22 37 34 8388607 HT_.out ?_
          refine pn_ 23 38 34 16777215 HT_.out ?_
          refine pn_ 24 39 34 33554431 HT_.out ?_
          refine pn_ 25 40 34 67108863 HT_.out ?_
          refine pn_ 26 41 34 134217727 HT_.out ?_
          refine pn_ 27 42 34 268435455 HT_.out ?_
          refine pn_ 28 43 34 536870911 HT_.out ?_
          refine pn_ 29 44 34 1073741823 HT_.out ?_
          refine pn_ 30 45 34 2147483647 HT_.out ?_
          refine pn_ 31 46 34 4294967295 HT_.out ?_
          refine pu_ 32 47 34 8589934591 HT_.out ?_
          refine pure_ (i := 33) (N := some 48) (v := ?_) (a' := ?_) #[true, true, true, true, true, true, true, true, true, true, true, true, true, true, true, true, true, true, true, true, true, true, true, true, true, true, true, true, true, true, true, true, true, true] rfl rfl (any_of HT_.out (by kernel_rfl)) (fun _ _ _ h => h) (Or.inl ⟨by rfl, ?_⟩) ?_ ?_
          rotate_left
          ·intro w'
           go_simp
           with_reducible rfl
          rotate_left
          ·simp only [Act.put, List.setIfInBounds_toArray, List.set_cons_zero, List.set_cons_succ, i64_w, i32_w]
           rfl
          refine done_ (done_of HT_.out (by kernel_rfl)) ?_
          try go_wp2
          go_roundg k1
          case measure => have := HK1.out; omega
          case rel => exact ⟨(x10_1), (wrap64 (x10_1 + 1)), (by first | rfl | (simp; done) | (simp [*]; done)), (by first | rfl | (simp; done) | (simp [*]; done)), H', ⟨by have := HK1.out; omega⟩, ⟨(q0_ HB.out)⟩⟩
         ·rw [if_neg c9] at H
          have c9b0 : decide (x5_1 < 0) = false := decide_eq_false c9
          clear c9
          by_cases c11 : 0 ≤ x5_1
          ·rw [if_pos c11] at H
           have c11b0 : decide (0 ≤ x5_1) = true := decide_eq_true c11
           clear c11
           by_cases c12 : x5_1 < (l0.length : Int)
           ·rw [if_pos c12] at H
            have c12b0 : decide (x5_1 < (l0.length : Int)) = true := decide_eq_true c12
            clear c12
            by_cases c13 : x5_1 < (l1.length : Int)
            ·rw [if_pos c13] at H
             have c13b0 : decide (x5_1 < (l1.length : Int)) = true := decide_eq_true c13
             clear c13
             replace H := Option.bind_eq_some_iff.mp H
             obtain ⟨t772, A140, H⟩ := H
             replace H : (if t772 ≥ 0 then (num_latest.l0 k1 l0 l1 x10_1 l1 (l1.length : Int) (wrap64 (x10_1 + 1))) else (num_latest.l0 k1 l0 l1 x5_1 l1 (l1.length : Int) (wrap64 (x10_1 + 1)))) = some r := H
             have A14 := Aside0.mk A140
             clear A140
             by_cases c15 : t772 ≥ 0
             ·rw [if_pos c15] at H
              have c15b0 : decide (0 ≤ t772) = true := decide_eq_true c15
              clear c15
              have H' := Aside0.mk H
              clear H
              have p767 : 0 ≤ (x10_1 : Int) := od_
              have q767 : x10_1 < (l1.length : Int) := od_
              obtain ⟨ad767, e767, hx767_0⟩ := Kd.at_int HR1.out x10_1 p767 q767
              cases e767
              replace hx767_0 := (HB.out.cell (World.block_lt_of_cell? w _ hx767_0)).trans hx767_0
              replace p767 := eq_true p767
              replace q767 := eq_true q767
              try go_wp2
              have n0_ := Aside0.mk (below_drew1 HB.out)
              clear HB
              have HB := n0_
              clear n0_
              have p768 : 0 ≤ (x10_1 : Int) := od_
              have q768 : x10_1 < (l0.length : Int) := od_
              obtain ⟨ad768, e768, hx768_0⟩ := Kd.at_int HR0.out x10_1 p768 q768
              have hw768_0 := hx768_0
              cases e768
              replace hx768_0 := (HB.out.cell (World.block_lt_of_cell? w _ hx768_0)).trans hx768_0
              replace p768 := eq_true p768
              replace q768 := eq_true q768
              have p769 : 0 ≤ (x10_1 : Int) := od_
              have q769 : x10_1 < (l0.length : Int) := od_
              obtain ⟨ad769, e769, hx769_0⟩ := Kd.at_int HR0.out x10_1 p769 q769
              have hw769_0 := hx769_0
              obtain rfl : ad768 = ad769 := (by injection e769)
              replace hx769_0 := (HB.out.cell (World.block_lt_of_cell? w _ hx769_0)).trans hx769_0
              replace p769 := eq_true p769
              replace q769 := eq_true q769
              have p770 : 0 ≤ (x5_1 : Int) := od_
              have q770 : x5_1 < (l0.length : Int) := od_
              obtain ⟨ad770, e770, hx770_0⟩ := Kd.at_int HR0.out x5_1 p770 q770
              have hw770_0 := hx770_0
              obtain rfl : ad768 = ad770 := (by injection e770)
              replace hx770_0 := (HB.out.cell (World.block_lt_of_cell? w _ hx770_0)).trans hx770_0
              replace p770 := eq_true p770
              replace q770 := eq_true q770
              have p771 : 0 ≤ (x5_1 : Int) := od_
              have q771 : x5_1 < (l1.length : Int) := od_
              obtain ⟨ad771, e771, hx771_0⟩ := Kd.at_int HR1.out x5_1 p771 q771
              have hw771_0 := hx771_0
              obtain rfl : ad767 = ad771 := (by injection e771)
              replace hx771_0 := (HB.out.cell (World.block_lt_of_cell? w _ hx771_0)).trans hx771_0
              replace p771 := eq_true p771
              replace q771 := eq_true q771
              refine start_ (n := 34) (S := fun w' => w'.cell? (ad768.add (x10_1).toNat) = some (.int .i64 (rd l0 x10_1)) ∧ w'.cell? (ad768.add (x10_1).toNat) = some (.int .i64 (rd l0 x10_1)) ∧ w'.cell? (ad768.add (x5_1).toNat) = some (.int .i64 (rd l0 x5_1)) ∧ w'.cell? (ad767.add (x5_1).toNat) = some (.int .i64 (rd l1 x5_1))) (ds := []) #[false, false, false, false, false, false, false, false, false, false, false, false, false, false, false, false, false, false, false, false, false, false, false, false, false, false, false, false, false, false, false, false, false, false] (by kernel_rfl) rfl rfl ⟨((HB.out.cell (World.block_lt_of_cell? w _ hw768_0)).trans hw768_0), ((HB.out.cell (World.block_lt_of_cell? w _ hw769_0)).trans hw769_0), ((HB.out.cell (World.block_lt_of_cell? w _ hw770_0)).trans hw770_0), ((HB.out.cell (World.block_lt_of_cell? w _ hw771_0)).trans hw771_0)⟩ (fun hHeld => ?_); refine with_tabW num_latest.tab5 num_latest.bits5 (fun HT_ HW_ => ?_)
              generalize wr.drew = w16 at HB hx768_0 hx769_0 hx770_0 hx771_0 hHeld ⊢
              refine pu_ 0 15 34 1 HT_.out ?_
              refine pu_ 1 16 34 3 HT_.out ?_
              refine pu_ 2 17 34 7 HT_.out ?_
              refine pu_ 3 18 34 15 HT_.out ?_
              refine pu_ 4 19 34 31 HT_.out ?_
              refine pu_ 5 20 34 63 HT_.out ?_
              refine ta_ 6 21 34 127 rfl rfl HT_.out HW_.out hHeld (Or.inl ⟨by rfl, by rintro w' ⟨s0, s1, s2, s3⟩; go_simp; with_reducible rfl⟩) ?_
              refine pu_ 7 22 34 255 HT_.out ?_
              refine pu_ 8 23 34 511 HT_.out ?_
              refine pu_ 9 24 34 1023 HT_.out ?_
              refine pu_ 10 25 34 2047 HT_.out ?_
              refine pu_ 11 26 34 4095 HT_.out ?_
              refine pu_ 12 27 34 8191 HT_.out ?_
              refine pu_ 13 28 34 16383 HT_.out ?_
              refine pu_ 14 29 34 32767 HT_.out ?_
              refine pu_ 15 30 34 65535 HT_.out ?_
              refine pu_ 19 34 34 589823 HT_.out ?_
              refine pu_ 20 35 34 1638399 HT_.out ?_
              refine pu_ 21 36 34 3735551 HT_.out ?_
              refine pu_ 22 37 34 7929855 HT_.out ?_
              refine pu_ 26 41 34 75038719 HT_.out ?_
              refine pu_ 27 42 34 209256447 HT_.out ?_
              refine pu_ 28 43 34 477691903 HT_.out ?_
              refine ta_ 16 31 34 477757439 rfl rfl HT_.out HW_.out hHeld (Or.inl ⟨by rfl, by rintro w' ⟨s0, s1, s2, s3⟩; go_simp; with_reducible rfl⟩) ?_
              refine pu_ 17 32 34 477888511 HT_.out ?_
              refine pu_ 18 33 34 478150655 HT_.out ?_
              refine ta_ 23 38 34 486539263 rfl rfl HT_.out HW_.out hHeld (Or.inl ⟨by rfl, by rintro w' ⟨s0, s1, s2, s3⟩; go_simp; with_reducible rfl⟩) ?_
              refine pu_ 24 39 34 503316479 HT_.out ?_
              refine pu_ 25 40 34 536870911 HT_.out ?_
              refine ta_ 29 44 34 1073741823 rfl rfl HT_.out HW_.out hHeld (Or.inl ⟨by rfl, by rintro w' ⟨s0, s1, s2, s3⟩; go_simp; with_reducible rfl⟩) ?_
              refine one_ (i := 30) (N := some 45) #[true, true, true, true, true, true, true, true, true, true, true, true, true, true, true, true, true, true, true, true, true, true, true, true, true, true, true, true, true, true, true, false, false, false] rfl rfl (one_of HT_.out (by kernel_rfl)) (by decide) (fun K hK => ?_)
              refine goes_ Tryd.func89 (by kernel_rfl) rfl #[.int .i64 (wrap64 ((wrap64 (2 * (rd l0 x10_1))) - 1)), .int .i64 (rd l1 x10_1), .int .i64 (wrap64 ((wrap64 (2 * (rd l0 x5_1))) - 1)), .int .i64 (rd l1 x5_1)] (by rfl) rfl rfl qe_ ?_
              with_reducible refine (num_before.calls k1 (wrap64 ((wrap64 (2 * (rd l0 x10_1))) - 1)) (rd l1 x10_1) (wrap64 ((wrap64 (2 * (rd l0 x5_1))) - 1)) (rd l1 x5_1) t772 _ A14.out).mono ?_
              rintro e w17 ⟨rfl, hb⟩
              refine ⟨_, rfl, ?_⟩
              have n0_ := Aside0.mk (below_step (q0_ HB.out) hb)
              clear HB
              have HB := n0_
              clear n0_
              (try clear hb)
              (try clear hb2)
              (try clear hk)
              (try clear hi)
              refine hK.out _ _ ⟨((HB.out.cell (World.block_lt_of_cell? w _ hw768_0)).trans hw768_0), ((HB.out.cell (World.block_lt_of_cell? w _ hw769_0)).trans hw769_0), ((HB.out.cell (World.block_lt_of_cell? w _ hw770_0)).trans hw770_0), ((HB.out.cell (World.block_lt_of_cell? w _ hw771_0)).trans hw771_0)⟩ (fun hHeld => ?_)
              clear hK K
              refine norm_ (a' := ?_) ?_ ?_
              rotate_left
              ·show Act.put _ (some 45) _ = _
               simp only [Act.put, List.setIfInBounds_toArray, List.set_cons_zero, List.set_cons_succ, i64_w, i32_w]
               rfl
              refine pu_ 31 46 34 4294967295 HT_.out ?_
              refine pu_ 32 47 34 8589934591 HT_.out ?_
              refine pure_ (i := 33) (N := some 48) (v := ?_) (a' := ?_) #[true, true, true, true, true, true, true, true, true, true, true, true, true, true, true, true, true, true, true, true, true, true, true, true, true, true, true, true, true, true, true, true, true, true] rfl rfl (any_of HT_.out (by kernel_rfl)) (fun _ _ _ h => h) (Or.inl ⟨by rfl, ?_⟩) ?_ ?_
              rotate_left
              ·intro w'
               go_simp
               with_reducible rfl
              rotate_left
              ·simp only [Act.put, List.setIfInBounds_toArray, List.set_cons_zero, List.set_cons_succ, i64_w, i32_w]
               rfl
              refine done_ (done_of HT_.out (by kernel_rfl)) ?_
              try go_wp2
              go_roundg k1
              case measure => have := HK1.out; omega
              case rel => exact ⟨(x10_1), (wrap64 (x10_1 + 1)), (by first | rfl | (simp; done) | (simp [*]; done)), (by first | rfl | (simp; done) | (simp [*]; done)), H', ⟨by have := HK1.out; omega⟩, ⟨(q0_ HB.out)⟩⟩
             ·rw [if_neg c15] at H
              have c15b0 : decide (0 ≤ t772) = false := decide_eq_false c15
              clear c15
              have H' := Aside0.mk H
              clear H
              have p767 : 0 ≤ (x10_1 : Int) := od_
              have q767 : x10_1 < (l1.length : Int) := od_
              obtain ⟨ad767, e767, hx767_0⟩ := Kd.at_int HR1.out x10_1 p767 q767
              cases e767
              replace hx767_0 := (HB.out.cell (World.block_lt_of_cell? w _ hx767_0)).trans hx767_0
              replace p767 := eq_true p767
              replace q767 := eq_true q767
              try go_wp2
              have n0_ := Aside0.mk (below_drew1 HB.out)
              clear HB
              have HB := n0_
              clear n0_
              have p768 : 0 ≤ (x10_1 : Int) := od_
              have q768 : x10_1 < (l0.length : Int) := od_
              obtain ⟨ad768, e768, hx768_0⟩ := Kd.at_int HR0.out x10_1 p768 q768
              have hw768_0 := hx768_0
              cases e768
              replace hx768_0 := (HB.out.cell (World.block_lt_of_cell? w _ hx768_0)).trans hx768_0
              replace p768 := eq_true p768
              replace q768 := eq_true q768
              have p769 : 0 ≤ (x10_1 : Int) := od_
              have q769 : x10_1 < (l0.length : Int) := od_
              obtain ⟨ad769, e769, hx769_0⟩ := Kd.at_int HR0.out x10_1 p769 q769
              have hw769_0 := hx769_0
              obtain rfl : ad768 = ad769 := (by injection e769)
              replace hx769_0 := (HB.out.cell (World.block_lt_of_cell? w _ hx769_0)).trans hx769_0
              replace p769 := eq_true p769
              replace q769 := eq_true q769
              have p770 : 0 ≤ (x5_1 : Int) := od_
              have q770 : x5_1 < (l0.length : Int) := od_
              obtain ⟨ad770, e770, hx770_0⟩ := Kd.at_int HR0.out x5_1 p770 q770
              have hw770_0 := hx770_0
              obtain rfl : ad768 = ad770 := (by injection e770)
              replace hx770_0 := (HB.out.cell (World.block_lt_of_cell? w _ hx770_0)).trans hx770_0
              replace p770 := eq_true p770
              replace q770 := eq_true q770
              have p771 : 0 ≤ (x5_1 : Int) := od_
              have q771 : x5_1 < (l1.length : Int) := od_
              obtain ⟨ad771, e771, hx771_0⟩ := Kd.at_int HR1.out x5_1 p771 q771
              have hw771_0 := hx771_0
              obtain rfl : ad767 = ad771 := (by injection e771)
              replace hx771_0 := (HB.out.cell (World.block_lt_of_cell? w _ hx771_0)).trans hx771_0
              replace p771 := eq_true p771
              replace q771 := eq_true q771
              refine start_ (n := 34) (S := fun w' => w'.cell? (ad768.add (x10_1).toNat) = some (.int .i64 (rd l0 x10_1)) ∧ w'.cell? (ad768.add (x10_1).toNat) = some (.int .i64 (rd l0 x10_1)) ∧ w'.cell? (ad768.add (x5_1).toNat) = some (.int .i64 (rd l0 x5_1)) ∧ w'.cell? (ad767.add (x5_1).toNat) = some (.int .i64 (rd l1 x5_1))) (ds := []) #[false, false, false, false, false, false, false, false, false, false, false, false, false, false, false, false, false, false, false, false, false, false, false, false, false, false, false, false, false, false, false, false, false, false] (by kernel_rfl) rfl rfl ⟨((HB.out.cell (World.block_lt_of_cell? w _ hw768_0)).trans hw768_0), ((HB.out.cell (World.block_lt_of_cell? w _ hw769_0)).trans hw769_0), ((HB.out.cell (World.block_lt_of_cell? w _ hw770_0)).trans hw770_0), ((HB.out.cell (World.block_lt_of_cell? w _ hw771_0)).trans hw771_0)⟩ (fun hHeld => ?_); refine with_tabW num_latest.tab5 num_latest.bits5 (fun HT_ HW_ => ?_)
              generalize wr.drew = w18 at HB hx768_0 hx769_0 hx770_0 hx771_0 hHeld ⊢
              refine pu_ 0 15 34 1 HT_.out ?_
              refine pu_ 1 16 34 3 HT_.out ?_
              refine pu_ 2 17 34 7 HT_.out ?_
              refine pu_ 3 18 34 15 HT_.out ?_
              refine pu_ 4 19 34 31 HT_.out ?_
              refine pu_ 5 20 34 63 HT_.out ?_
              refine ta_ 6 21 34 127 rfl rfl HT_.out HW_.out hHeld (Or.inl ⟨by rfl, by rintro w' ⟨s0, s1, s2, s3⟩; go_simp; with_reducible rfl⟩) ?_
              refine pu_ 7 22 34 255 HT_.out ?_
              refine pu_ 8 23 34 511 HT_.out ?_
              refine pu_ 9 24 34 1023 HT_.out ?_
              refine pu_ 10 25 34 2047 HT_.out ?_
              refine pu_ 11 26 34 4095 HT_.out ?_
              refine pu_ 12 27 34 8191 HT_.out ?_
              refine pu_ 13 28 34 16383 HT_.out ?_
              refine pu_ 14 29 34 32767 HT_.out ?_
              refine pu_ 15 30 34 65535 HT_.out ?_
              refine pu_ 19 34 34 589823 HT_.out ?_
              refine pu_ 20 35 34 1638399 HT_.out ?_
              refine pu_ 21 36 34 3735551 HT_.out ?_
              refine pu_ 22 37 34 7929855 HT_.out ?_
              refine pu_ 26 41 34 75038719 HT_.out ?_
              refine pu_ 27 42 34 209256447 HT_.out ?_
              refine pu_ 28 43 34 477691903 HT_.out ?_
              refine ta_ 16 31 34 477757439 rfl rfl HT_.out HW_.out hHeld (Or.inl ⟨by rfl, by rintro w' ⟨s0, s1, s2, s3⟩; go_simp; with_reducible rfl⟩) ?_
              refine pu_ 17 32 34 477888511 HT_.out ?_
              refine pu_ 18 33 34 478150655 HT_.out ?_
              refine ta_ 23 38 34 486539263 rfl rfl HT_.out HW_.out hHeld (Or.inl ⟨by rfl, by rintro w' ⟨s0, s1, s2, s3⟩; go_simp; with_reducible rfl⟩) ?_
              refine pu_ 24 39 34 503316479 HT_.out ?_
              refine pu_ 25 40 34 536870911 HT_.out ?_
              refine ta_ 29 44 34 1073741823 rfl rfl HT_.out HW_.out hHeld (Or.inl ⟨by rfl, by rintro w' ⟨s0, s1, s2, s3⟩; go_simp; with_reducible rfl⟩) ?_
              refine one_ (i := 30) (N := some 45) #[true, true, true, true, true, true, true, true, true, true, true, true, true, true, true, true, true, true, true, true, true, true, true, true, true, true, true, true, true, true, true, false, false, false] rfl rfl (one_of HT_.out (by kernel_rfl)) (by decide) (fun K hK => ?_)
              refine goes_ Tryd.func89 (by kernel_rfl) rfl #[.int .i64 (wrap64 ((wrap64 (2 * (rd l0 x10_1))) - 1)), .int .i64 (rd l1 x10_1), .int .i64 (wrap64 ((wrap64 (2 * (rd l0 x5_1))) - 1)), .int .i64 (rd l1 x5_1)] (by rfl) rfl rfl qe_ ?_
              with_reducible refine (num_before.calls k1 (wrap64 ((wrap64 (2 * (rd l0 x10_1))) - 1)) (rd l1 x10_1) (wrap64 ((wrap64 (2 * (rd l0 x5_1))) - 1)) (rd l1 x5_1) t772 _ A14.out).mono ?_
              rintro e w19 ⟨rfl, hb⟩
              refine ⟨_, rfl, ?_⟩
              have n0_ := Aside0.mk (below_step (q0_ HB.out) hb)
              clear HB
              have HB := n0_
              clear n0_
              (try clear hb)
              (try clear hb2)
              (try clear hk)
              (try clear hi)
              refine hK.out _ _ ⟨((HB.out.cell (World.block_lt_of_cell? w _ hw768_0)).trans hw768_0), ((HB.out.cell (World.block_lt_of_cell? w _ hw769_0)).trans hw769_0), ((HB.out.cell (World.block_lt_of_cell? w _ hw770_0)).trans hw770_0), ((HB.out.cell (World.block_lt_of_cell? w _ hw771_0)).trans hw771_0)⟩ (fun hHeld => ?_)
              clear hK K
              refine norm_ (a' := ?_) ?_ ?_
              rotate_left
              ·show Act.put _ (some 45) _ = _
               simp only [Act.put, List.setIfInBounds_toArray, List.set_cons_zero, List.set_cons_succ, i64_w, i32_w]
               rfl
              refine pu_ 31 46 34 4294967295 HT_.out ?_
              refine pu_ 32 47 34 8589934591 HT_.out ?_
              refine pure_ (i := 33) (N := some 48) (v := ?_) (a' := ?_) #[true, true, true, true, true, true, true, true, true, true, true, true, true, true, true, true, true, true, true, true, true, true, true, true, true, true, true, true, true, true, true, true, true, true] rfl rfl (any_of HT_.out (by kernel_rfl)) (fun _ _ _ h => h) (Or.inl ⟨by rfl, ?_⟩) ?_ ?_
              rotate_left
              ·intro w'
               go_simp
               with_reducible rfl
              rotate_left
              ·simp only [Act.put, List.setIfInBounds_toArray, List.set_cons_zero, List.set_cons_succ, i64_w, i32_w]
               rfl
              refine done_ (done_of HT_.out (by kernel_rfl)) ?_
              try go_wp2
              go_roundg k1
              case measure => have := HK1.out; omega
              case rel => exact ⟨(x5_1), (wrap64 (x10_1 + 1)), (by first | rfl | (simp; done) | (simp [*]; done)), (by first | rfl | (simp; done) | (simp [*]; done)), H', ⟨by have := HK1.out; omega⟩, ⟨(q0_ HB.out)⟩⟩
            ·rw [if_neg c13] at H
             exact absurd H (by simp)
           ·rw [if_neg c12] at H
            exact absurd H (by simp)
          ·rw [if_neg c11] at H
           exact absurd H (by simp)
        ·rw [if_neg c8] at H
         have c8b0 : decide (0 < (rd l0 x10_1)) = false := decide_eq_false c8
         clear c8
         have H' := Aside0.mk H
         clear H
         have p767 : 0 ≤ (x10_1 : Int) := od_
         have q767 : x10_1 < (l1.length : Int) := od_
         obtain ⟨ad767, e767, hx767_0⟩ := Kd.at_int HR1.out x10_1 p767 q767
         cases e767
         replace hx767_0 := (HB.out.cell (World.block_lt_of_cell? w _ hx767_0)).trans hx767_0
         replace p767 := eq_true p767
         replace q767 := eq_true q767
         try go_wp2
         have n0_ := Aside0.mk (below_drew1 HB.out)
         clear HB
         have HB := n0_
         clear n0_
         have p768 : 0 ≤ (x10_1 : Int) := od_
         have q768 : x10_1 < (l0.length : Int) := od_
         obtain ⟨ad768, e768, hx768_0⟩ := Kd.at_int HR0.out x10_1 p768 q768
         have hw768_0 := hx768_0
         cases e768
         replace hx768_0 := (HB.out.cell (World.block_lt_of_cell? w _ hx768_0)).trans hx768_0
         replace p768 := eq_true p768
         replace q768 := eq_true q768
         refine start_ (n := 34) (S := fun w' => w'.cell? (ad768.add (x10_1).toNat) = some (.int .i64 (rd l0 x10_1))) (ds := []) #[false, false, false, false, false, false, false, false, false, false, false, false, false, false, false, false, false, false, false, false, false, false, false, false, false, false, false, false, false, false, false, false, false, false] (by kernel_rfl) rfl rfl (((HB.out.cell (World.block_lt_of_cell? w _ hw768_0)).trans hw768_0)) (fun hHeld => ?_); refine with_tabW num_latest.tab5 num_latest.bits5 (fun HT_ HW_ => ?_)
         generalize wr.drew = w20 at HB hx768_0 hHeld ⊢
         refine pu_ 0 15 34 1 HT_.out ?_
         refine pu_ 1 16 34 3 HT_.out ?_
         refine pu_ 2 17 34 7 HT_.out ?_
         refine pu_ 3 18 34 15 HT_.out ?_
         refine pu_ 4 19 34 31 HT_.out ?_
         refine pu_ 5 20 34 63 HT_.out ?_
         refine ta_ 6 21 34 127 rfl rfl HT_.out HW_.out hHeld (Or.inl ⟨by rfl, by intro w' s0; go_simp; with_reducible rfl⟩) ?_
         refine pu_ 7 22 34 255 HT_.out ?_
         refine pu_ 8 23 34 511 HT_.out ?_
         refine pu_ 9 24 34 1023 HT_.out ?_
         refine pn_ 10 25 34 2047 HT_.out ?_
         refine pn_ 11 26 34 4095 HT_.out ?_
         refine pn_ 12 27 34 8191 HT_.out ?_
         refine pn_ 13 28 34 16383 HT_.out ?_
         refine pn_ 14 29 34 32767 HT_.out ?_
         refine pn_ 15 30 34 65535 HT_.out ?_
         refine pn_ 16 31 34 131071 HT_.out ?_
         refine pn_ 17 32 34 262143 HT_.out ?_
         refine pn_ 18 33 34 524287 HT_.out ?_
         refine pn_ 19 34 34 1048575 HT_.out ?_
         refine pn_ 20 35 34 2097151 HT_.out ?_
         refine pn_ 21 36 34 4194303 HT_.out ?_
         refine pn_ 22 37 34 8388607 HT_.out ?_
         refine pn_ 23 38 34 16777215 HT_.out ?_
         refine pn_ 24 39 34 33554431 HT_.out ?_
         refine pn_ 25 40 34 67108863 HT_.out ?_
         refine pn_ 26 41 34 134217727 HT_.out ?_
         refine pn_ 27 42 34 268435455 HT_.out ?_
         refine pn_ 28 43 34 536870911 HT_.out ?_
         refine pn_ 29 44 34 1073741823 HT_.out ?_
         refine pn_ 30 45 34 2147483647 HT_.out ?_
         refine pn_ 31 46 34 4294967295 HT_.out ?_
         refine pn_ 32 47 34 8589934591 HT_.out ?_
         refine pure_ (i := 33) (N := some 48) (v := ?_) (a' := ?_) #[true, true, true, true, true, true, true, true, true, true, true, true, true, true, true, true, true, true, true, true, true, true, true, true, true, true, true, true, true, true, true, true, true, true] rfl rfl (any_of HT_.out (by kernel_rfl)) (fun _ _ _ h => h) (Or.inl ⟨by rfl, ?_⟩) ?_ ?_
         rotate_left
         ·intro w'
          go_simp
          with_reducible rfl
         rotate_left
         ·simp only [Act.put, List.setIfInBounds_toArray, List.set_cons_zero, List.set_cons_succ, i64_w, i32_w]
          rfl
         refine done_ (done_of HT_.out (by kernel_rfl)) ?_
         try go_wp2
         go_roundg k1
         case measure => have := HK1.out; omega
         case rel => exact ⟨(x5_1), (wrap64 (x10_1 + 1)), (by first | rfl | (simp; done) | (simp [*]; done)), (by first | rfl | (simp; done) | (simp [*]; done)), H', ⟨by have := HK1.out; omega⟩, ⟨(q0_ HB.out)⟩⟩
       ·rw [if_neg c7] at H
        exact absurd H (by simp)
      ·rw [if_neg c6] at H
       have c6b0 : decide (0 < (rd l1 x10_1)) = false := decide_eq_false c6
       clear c6
       have H' := Aside0.mk H
       clear H
       have p767 : 0 ≤ (x10_1 : Int) := od_
       have q767 : x10_1 < (l1.length : Int) := od_
       obtain ⟨ad767, e767, hx767_0⟩ := Kd.at_int HR1.out x10_1 p767 q767
       cases e767
       replace hx767_0 := (HB.out.cell (World.block_lt_of_cell? w _ hx767_0)).trans hx767_0
       replace p767 := eq_true p767
       replace q767 := eq_true q767
       try go_wp2
       have n0_ := Aside0.mk (below_drew1 HB.out)
       clear HB
       have HB := n0_
       clear n0_
       refine start_ (n := 34) (S := fun w' => True) (ds := []) #[false, false, false, false, false, false, false, false, false, false, false, false, false, false, false, false, false, false, false, false, false, false, false, false, false, false, false, false, false, false, false, false, false, false] (by kernel_rfl) rfl rfl trivial (fun hHeld => ?_); refine with_tabW num_latest.tab5 num_latest.bits5 (fun HT_ HW_ => ?_)
       generalize wr.drew = w21 at HB hHeld ⊢
       refine pu_ 0 15 34 1 HT_.out ?_
       refine pu_ 1 16 34 3 HT_.out ?_
       refine pu_ 2 17 34 7 HT_.out ?_
       refine pn_ 3 18 34 15 HT_.out ?_
       refine pn_ 4 19 34 31 HT_.out ?_
       refine pn_ 5 20 34 63 HT_.out ?_
       refine pn_ 6 21 34 127 HT_.out ?_
       refine pn_ 7 22 34 255 HT_.out ?_
       refine pu_ 8 23 34 511 HT_.out ?_
       refine pu_ 9 24 34 1023 HT_.out ?_
       refine pn_ 10 25 34 2047 HT_.out ?_
       refine pn_ 11 26 34 4095 HT_.out ?_
       refine pn_ 12 27 34 8191 HT_.out ?_
       refine pn_ 13 28 34 16383 HT_.out ?_
       refine pn_ 14 29 34 32767 HT_.out ?_
       refine pn_ 15 30 34 65535 HT_.out ?_
       refine pn_ 16 31 34 131071 HT_.out ?_
       refine pn_ 17 32 34 262143 HT_.out ?_
       refine pn_ 18 33 34 524287 HT_.out ?_
       refine pn_ 19 34 34 1048575 HT_.out ?_
       refine pn_ 20 35 34 2097151 HT_.out ?_
       refine pn_ 21 36 34 4194303 HT_.out ?_
       refine pn_ 22 37 34 8388607 HT_.out ?_
       refine pn_ 23 38 34 16777215 HT_.out ?_
       refine pn_ 24 39 34 33554431 HT_.out ?_
       refine pn_ 25 40 34 67108863 HT_.out ?_
       refine pn_ 26 41 34 134217727 HT_.out ?_
       refine pn_ 27 42 34 268435455 HT_.out ?_
       refine pn_ 28 43 34 536870911 HT_.out ?_
       refine pn_ 29 44 34 1073741823 HT_.out ?_
       refine pn_ 30 45 34 2147483647 HT_.out ?_
       refine pn_ 31 46 34 4294967295 HT_.out ?_
       refine pn_ 32 47 34 8589934591 HT_.out ?_
       refine pure_ (i := 33) (N := some 48) (v := ?_) (a' := ?_) #[true, true, true, true, true, true, true, true, true, true, true, true, true, true, true, true, true, true, true, true, true, true, true, true, true, true, true, true, true, true, true, true, true, true] rfl rfl (any_of HT_.out (by kernel_rfl)) (fun _ _ _ h => h) (Or.inl ⟨by rfl, ?_⟩) ?_ ?_
       rotate_left
       ·intro w'
        go_simp
        with_reducible rfl
       rotate_left
       ·simp only [Act.put, List.setIfInBounds_toArray, List.set_cons_zero, List.set_cons_succ, i64_w, i32_w]
        rfl
       refine done_ (done_of HT_.out (by kernel_rfl)) ?_
       try go_wp2
       go_roundg k1
       case measure => have := HK1.out; omega
       case rel => exact ⟨(x5_1), (wrap64 (x10_1 + 1)), (by first | rfl | (simp; done) | (simp [*]; done)), (by first | rfl | (simp; done) | (simp [*]; done)), H', ⟨by have := HK1.out; omega⟩, ⟨(q0_ HB.out)⟩⟩
     ·rw [if_neg c5] at H
      exact absurd H (by simp)
    ·rw [if_neg c4] at H
     exact absurd H (by simp)
   ·rw [if_neg c3] at H
    have c3b0 : decide (x10_1 < (l1.length : Int)) = false := decide_eq_false c3
    clear c3
    obtain rfl := Option.some.inj H
    go_wp2
    go_ret
    exact ⟨by first | rfl | (simp [errW_none, errW_some] <;> rfl) | (simp [*, errW_none, errW_some] <;> rfl), (q0_ HB.out)⟩
mutual
def num_weighed.j0 : Nat → Int → List Int → Bool → Option (Int × Int)
 | 0, _, _, _ => none
 | k + 1, x0, x1, x17 => if x17 = true then (some (0, 2)) else (num_weighed.l0 k x0 0 x1 (x1.length : Int) 0)
def num_weighed.l0 : Nat → Int → Int → List Int → Int → Int → Option (Int × Int)
 | 0, _, _, _, _, _ => none
 | k + 1, x0, x6, x18, x19, x20 => if x20 < x19 then (if 0 ≤ x20 then (if x20 < (x18.length : Int) then (if (rd x18 x20) < 0 then (some (0, 2)) else (if (rd x18 x20) > 1073741824 then (some (0, 2)) else (num_weighed.l0 k x0 (wrap64 (x6 + (rd x18 x20))) x18 x19 (wrap64 (x20 + 1))))) else (none)) else (none)) else (if x6 = 0 then (if x0 = 0 then (some (x6, 0)) else (some (0, 5))) else (some (x6, 0)))
end
def num_weighed.f (k : Nat) (a0 : Int) (l1 : List Int) : Option (Int × Int) := if (l1.length : Int) > 256 then (some (0, 3)) else (if a0 < 0 then (num_weighed.j0 k a0 l1 true) else (num_weighed.j0 k a0 l1 (decide (a0 > 1125899906842624))))
set_option maxHeartbeats 8000000 in
set_option maxRecDepth 100000 in
theorem num_weighed.calls (k : Nat) (a0 : Int) (A1 : Option Addr) (c1 : Nat) (l1 : List Int) (r1 : Int) (r2 : Int) (w : World) (hr1 : Kd.C (Kd.int .i64) w A1 l1.length l1) (hc1 : l1.length ≤ c1) (h : num_weighed.f k a0 l1 = some (r1, r2)) :
  Calls Tryd.prog 92 #[.int .i64 a0, .slice A1 l1.length c1] w fun e w' => e = .returned (.tuple #[.int .i64 r1, .int .i64 r2]) ∧ Drawn0 w w' := by
 have HR1 := Aside0.mk hr1
 have HC1 := Aside0.mk hc1
 clear hr1 hc1
 have H : (if (l1.length : Int) > 256 then (some (0, 3)) else (if a0 < 0 then (num_weighed.j0 k a0 l1 true) else (num_weighed.j0 k a0 l1 (decide (a0 > 1125899906842624))))) = some (r1, r2) := h
 clear h
 by_cases c3 : (l1.length : Int) > 256
 ·rw [if_pos c3] at H
  have c3b0 : decide (256 < (l1.length : Int)) = true := decide_eq_true c3
  have c3b1 : decide (256 < l1.length) = true := decide_eq_true (by omega)
  clear c3
  simp only [Option.some.injEq, Prod.mk.injEq] at H
  obtain ⟨rfl, rfl⟩ := H
  go_enter Tryd.func92, Tryd.ntmps92
  go_wp2
  go_ret2
  exact ⟨by first | rfl | (simp; done) | (simp [*]; done), by repeat (first | exact Drawn0.refl _ | apply Drawn0.step)⟩
 ·rw [if_neg c3] at H
  have c3b0 : decide (256 < (l1.length : Int)) = false := decide_eq_false c3
  have c3b1 : decide (256 < l1.length) = false := decide_eq_false (by omega)
  clear c3
  have HC4 := Aside0.mk H
  clear H
  go_enter Tryd.func92, Tryd.ntmps92
  go_upto_region 3 with (fail)
  go_cut [17] (fun v17 wc => ∃ (kq : Nat) (x17_3 : Bool), v17 = .bool x17_3 ∧ Aside0 (num_weighed.j0 kq a0 l1 x17_3 = some (r1, r2)) ∧ Aside0 (kq ≤ k) ∧ Drawn0 w wc)
  case first =>
   have H := HC4.out
   clear HC4
   by_cases c5 : a0 < 0
   ·rw [if_pos c5] at H
    have c5b0 : decide (a0 < 0) = true := decide_eq_true c5
    clear c5
    (first | rw [c5b0] | (simp only [i64_w, i32_w]; rw [c5b0]) | skip)
    have H' := Aside0.mk H
    clear H
    go_wp2
    go_meet
    case rel => exact ⟨_, (true), (by first | rfl | (simp; done) | (simp [*]; done)), H', ⟨by first | omega | exact Nat.le_refl _⟩, by repeat (first | exact Drawn0.refl _ | apply Drawn0.step)⟩
   ·rw [if_neg c5] at H
    have c5b0 : decide (a0 < 0) = false := decide_eq_false c5
    clear c5
    (first | rw [c5b0] | (simp only [i64_w, i32_w]; rw [c5b0]) | skip)
    have H' := Aside0.mk H
    clear H
    go_wp2
    go_meet
    case rel => exact ⟨_, (decide (a0 > 1125899906842624)), (by first | rfl | (simp; done) | (simp [*]; done)), H', ⟨by first | omega | exact Nat.le_refl _⟩, by repeat (first | exact Drawn0.refl _ | apply Drawn0.step)⟩
  case rest =>
   clear HC4
   try clear c1
   try clear p2
   try clear c3
   try clear c3b0
   try clear c3b1
   try clear c5
   try clear c5b0
   obtain ⟨kq, x17_3, rfl, HA, HJ3, ⟨mc3, rfl⟩⟩ := hcut
   cases kq with
   | zero => exact absurd HA.out (by simp [num_weighed.j0])
   | succ kj3 =>
    have H := HA.out
    clear HA
    simp only [num_weighed.j0] at H
    by_cases c6 : x17_3 = true
    ·subst c6
     have H1 : (some (0, 2)) = some (r1, r2) := by rw [if_pos rfl] at H; exact H
     clear H
     have H := H1
     clear H1
     simp only [Option.some.injEq, Prod.mk.injEq] at H
     obtain ⟨rfl, rfl⟩ := H
     go_wp2
     go_ret2
     exact ⟨by first | rfl | (simp; done) | (simp [*]; done), by repeat (first | exact Drawn0.refl _ | apply Drawn0.step)⟩
    ·replace c6 := Bool.eq_false_iff.mpr c6
     subst c6
     have H1 : (num_weighed.l0 kj3 a0 0 l1 (l1.length : Int) 0) = some (r1, r2) := by rw [if_neg (show ¬ (false = true) by decide)] at H; exact H
     clear H
     have H := H1
     clear H1
     have H' := Aside0.mk H
     clear H
     go_wp2
     go_loopg [6, 20] kj3 (fun kq v6 v20 w' => ∃ (x6_2 : Int) (x20_2 : Int), v6 = .int .i64 x6_2 ∧ v20 = .int .i64 x20_2 ∧ Aside0 (num_weighed.l0 kq a0 x6_2 l1 (l1.length : Int) x20_2 = some (r1, r2)) ∧ Aside0 (kq ≤ kj3) ∧ Drawn0 w w')
     case atStart => exact ⟨(0), (0), (by first | rfl | (simp; done) | (simp [*]; done)), (by first | rfl | (simp; done) | (simp [*]; done)), H', ⟨Nat.le_refl _⟩, by repeat (first | exact Drawn0.refl _ | apply Drawn0.step)⟩
     case round =>
      clear H'
      try clear c1
      try clear p2
      try clear c3
      try clear c3b0
      try clear c3b1
      try clear c5
      try clear c5b0
      try clear c6
      try clear p2
      obtain ⟨x6_2, x20_2, rfl, rfl, HA, HK2, ⟨m2, rfl⟩⟩ := hrel
      cases gk with
      | zero => exact absurd HA.out (by simp [num_weighed.l0])
      | succ k2 =>
       have H := HA.out
       clear HA
       simp only [num_weighed.l0] at H
       by_cases c7 : x20_2 < (l1.length : Int)
       ·rw [if_pos c7] at H
        have c7b0 : decide (x20_2 < (l1.length : Int)) = true := decide_eq_true c7
        clear c7
        by_cases c8 : 0 ≤ x20_2
        ·rw [if_pos c8] at H
         have c8b0 : decide (0 ≤ x20_2) = true := decide_eq_true c8
         clear c8
         by_cases c9 : x20_2 < (l1.length : Int)
         ·rw [if_pos c9] at H
          have c9b0 : decide (x20_2 < (l1.length : Int)) = true := decide_eq_true c9
          clear c9
          by_cases c10 : (rd l1 x20_2) < 0
          ·rw [if_pos c10] at H
           have c10b0 : decide ((rd l1 x20_2) < 0) = true := decide_eq_true c10
           clear c10
           simp only [Option.some.injEq, Prod.mk.injEq] at H
           obtain ⟨rfl, rfl⟩ := H
           have p120 : 0 ≤ (x20_2 : Int) := od_
           have q120 : x20_2 < (l1.length : Int) := od_
           obtain ⟨ad120, e120, hx120_0⟩ := Kd.at_int HR1.out x20_2 p120 q120
           cases e120
           replace p120 := eq_true p120
           replace q120 := eq_true q120
           go_wp2
           go_ret2
           exact ⟨by first | rfl | (simp; done) | (simp [*]; done), by repeat (first | exact Drawn0.refl _ | apply Drawn0.step)⟩
          ·rw [if_neg c10] at H
           have c10b0 : decide ((rd l1 x20_2) < 0) = false := decide_eq_false c10
           clear c10
           by_cases c11 : (rd l1 x20_2) > 1073741824
           ·rw [if_pos c11] at H
            have c11b0 : decide (1073741824 < (rd l1 x20_2)) = true := decide_eq_true c11
            clear c11
            simp only [Option.some.injEq, Prod.mk.injEq] at H
            obtain ⟨rfl, rfl⟩ := H
            have p120 : 0 ≤ (x20_2 : Int) := od_
            have q120 : x20_2 < (l1.length : Int) := od_
            obtain ⟨ad120, e120, hx120_0⟩ := Kd.at_int HR1.out x20_2 p120 q120
            cases e120
            replace p120 := eq_true p120
            replace q120 := eq_true q120
            go_wp2
            go_ret2
            exact ⟨by first | rfl | (simp; done) | (simp [*]; done), by repeat (first | exact Drawn0.refl _ | apply Drawn0.step)⟩
           ·rw [if_neg c11] at H
            have c11b0 : decide (1073741824 < (rd l1 x20_2)) = false := decide_eq_false c11
            clear c11
            have H' := Aside0.mk H
            clear H
            have p120 : 0 ≤ (x20_2 : Int) := od_
            have q120 : x20_2 < (l1.length : Int) := od_
            obtain ⟨ad120, e120, hx120_0⟩ := Kd.at_int HR1.out x20_2 p120 q120
            cases e120
            replace p120 := eq_true p120
            replace q120 := eq_true q120
            go_wp2
            go_roundg k2
            case measure => have := HJ3.out; have := HK2.out; omega
            case rel => exact ⟨(wrap64 (x6_2 + (rd l1 x20_2))), (wrap64 (x20_2 + 1)), (by first | rfl | (simp; done) | (simp [*]; done)), (by first | rfl | (simp; done) | (simp [*]; done)), H', ⟨by have := HJ3.out; have := HK2.out; omega⟩, by repeat (first | exact Drawn0.refl _ | apply Drawn0.step)⟩
         ·rw [if_neg c9] at H
          exact absurd H (by simp)
        ·rw [if_neg c8] at H
         exact absurd H (by simp)
       ·rw [if_neg c7] at H
        have c7b0 : decide (x20_2 < (l1.length : Int)) = false := decide_eq_false c7
        clear c7
        by_cases c12 : x6_2 = 0
        ·rw [if_pos c12] at H
         have c12b0 : (x6_2 == 0) = true := beq_iff_eq.mpr c12
         have c12b1 : (x6_2 != 0) = false := bne_eq_false_iff_eq.mpr c12
         clear c12
         by_cases c13 : a0 = 0
         ·rw [if_pos c13] at H
          have c13b0 : (a0 == 0) = true := beq_iff_eq.mpr c13
          have c13b1 : (a0 != 0) = false := bne_eq_false_iff_eq.mpr c13
          clear c13
          simp only [Option.some.injEq, Prod.mk.injEq] at H
          obtain ⟨rfl, rfl⟩ := H
          go_wp2
          go_ret2
          exact ⟨by first | rfl | (simp; done) | (simp [*]; done), by repeat (first | exact Drawn0.refl _ | apply Drawn0.step)⟩
         ·rw [if_neg c13] at H
          have c13b0 : (a0 == 0) = false := beq_eq_false_iff_ne.mpr c13
          have c13b1 : (a0 != 0) = true := bne_iff_ne.mpr c13
          simp only [Option.some.injEq, Prod.mk.injEq] at H
          obtain ⟨rfl, rfl⟩ := H
          go_wp2
          go_ret2
          exact ⟨by first | rfl | (simp; done) | (simp [*]; done), by repeat (first | exact Drawn0.refl _ | apply Drawn0.step)⟩
        ·rw [if_neg c12] at H
         have c12b0 : (x6_2 == 0) = false := beq_eq_false_iff_ne.mpr c12
         have c12b1 : (x6_2 != 0) = true := bne_iff_ne.mpr c12
         simp only [Option.some.injEq, Prod.mk.injEq] at H
         obtain ⟨rfl, rfl⟩ := H
         go_wp2
         go_ret2
         exact ⟨by first | rfl | (simp; done) | (simp [*]; done), by repeat (first | exact Drawn0.refl _ | apply Drawn0.step)⟩
def num_share.f (k : Nat) (a0 : Int) (a1 : Int) (a2 : Int) : Option (Int × Int) := (bits_Mul64.f (IntKind.u64.wrap (a0)) (IntKind.u64.wrap (a1))).bind fun bt123 => ((bits_Div64.f k bt123.1 bt123.2 (IntKind.u64.wrap (a2))).bind fun bt125 => (some (wrap64 (bt125.1), wrap64 (bt125.2))))
set_option maxHeartbeats 8000000 in
set_option maxRecDepth 100000 in
theorem num_share.calls (k : Nat) (a0 : Int) (a1 : Int) (a2 : Int) (r1 : Int) (r2 : Int) (w : World) (h : num_share.f k a0 a1 a2 = some (r1, r2)) :
  Calls Tryd.prog 93 #[.int .i64 a0, .int .i64 a1, .int .i64 a2] w fun e w' => e = .returned (.tuple #[.int .i64 r1, .int .i64 r2]) ∧ Drawn0 w w' := by
 have H : ((bits_Mul64.f (IntKind.u64.wrap (a0)) (IntKind.u64.wrap (a1))).bind fun bt123 => ((bits_Div64.f k bt123.1 bt123.2 (IntKind.u64.wrap (a2))).bind fun bt125 => (some (wrap64 (bt125.1), wrap64 (bt125.2))))) = some (r1, r2) := h
 clear h
 replace H := Option.bind_eq_some_iff.mp H
 obtain ⟨⟨t123, t124⟩, A40, H⟩ := H
 replace H : ((bits_Div64.f k t123 t124 (IntKind.u64.wrap (a2))).bind fun bt125 => (some (wrap64 (bt125.1), wrap64 (bt125.2)))) = some (r1, r2) := H
 have A4 := Aside0.mk A40
 clear A40
 replace H := Option.bind_eq_some_iff.mp H
 obtain ⟨⟨t125, t126⟩, A50, H⟩ := H
 replace H : (some (wrap64 (t125), wrap64 (t126))) = some (r1, r2) := H
 have A5 := Aside0.mk A50
 clear A50
 simp only [Option.some.injEq, Prod.mk.injEq] at H
 obtain ⟨rfl, rfl⟩ := H
 go_enter Tryd.func93, Tryd.ntmps93
 go_wp2_with (first | ((with_reducible refine gate_callee (f := 114) rfl ?_); refine goesL_ (some 17) rfl rfl Tryd.func114 (by kernel_rfl) rfl #[.int .u64 (IntKind.u64.wrap (a0)), .int .u64 (IntKind.u64.wrap (a1))] rfl qe_ ?_; (with_reducible refine (bits_Mul64.calls (IntKind.u64.wrap (a0)) (IntKind.u64.wrap (a1)) t123 t124 _ A4.out).mono ?_); rintro e w' ⟨rfl, ⟨nd, rfl⟩⟩; refine ⟨_, rfl, ?_⟩) | ((with_reducible refine gate_callee (f := 112) rfl ?_); refine goesL_ (some 25) rfl rfl Tryd.func112 (by kernel_rfl) rfl #[.int .u64 t123, .int .u64 t124, .int .u64 (IntKind.u64.wrap (a2))] rfl qe_ ?_; (with_reducible refine (bits_Div64.calls k t123 t124 (IntKind.u64.wrap (a2)) t125 t126 _ A5.out).mono ?_); rintro e w' ⟨rfl, ⟨nd, rfl⟩⟩; refine ⟨_, rfl, ?_⟩))
 go_ret2
 exact ⟨by first | rfl | (simp; done) | (simp [*]; done), by repeat (first | exact Drawn0.refl _ | apply Drawn0.step)⟩
mutual
def num_Divide.l0 : Nat → Int → List Int → Int → List Int → Int → List Int → Int → Int → Option (List Int × Int)
 | 0, _, _, _, _, _, _, _, _ => none
 | k + 1, x0, x1, x6, x8, x9, x29, x30, x31 => if x31 < x30 then (if 0 ≤ x31 then (if x31 < (x29.length : Int) then ((num_share.f k x0 (rd x29 x31) x6).bind fun bt880 => (if (wrap64 (2 * bt880.2)) ≥ x6 then (if x31 < (x8.length : Int) then (num_Divide.l0 k x0 x1 x6 (x8.set (x31 : Int).toNat (wrap64 (bt880.1 + 1))) (wrap64 (x9 + (wrap64 (bt880.1 + 1)))) x29 x30 (wrap64 (x31 + 1))) else (none)) else (if x31 < (x8.length : Int) then (num_Divide.l0 k x0 x1 x6 (x8.set (x31 : Int).toNat bt880.1) (wrap64 (x9 + bt880.1)) x29 x30 (wrap64 (x31 + 1))) else (none)))) else (none)) else (none)) else (num_Divide.l1 k x0 x1 x8 x9)
def num_Divide.l1 : Nat → Int → List Int → List Int → Int → Option (List Int × Int)
 | 0, _, _, _, _ => none
 | k + 1, x0, x1, x8, x9 => if x9 < x0 then ((num_next.f k x8 x1).bind fun t884 => (if 0 ≤ t884 then (if t884 < (x8.length : Int) then (num_Divide.l1 k x0 x1 (x8.set (t884 : Int).toNat (wrap64 ((rd x8 t884) + 1))) (wrap64 (x9 + 1))) else (none)) else (none))) else (num_Divide.l2 k x0 x1 x8 x9)
def num_Divide.l2 : Nat → Int → List Int → List Int → Int → Option (List Int × Int)
 | 0, _, _, _, _ => none
 | k + 1, x0, x1, x8, x9 => if x9 > x0 then ((num_latest.f k x8 x1).bind fun t887 => (if 0 ≤ t887 then (if t887 < (x8.length : Int) then (num_Divide.l2 k x0 x1 (x8.set (t887 : Int).toNat (wrap64 ((rd x8 t887) - 1))) (wrap64 (x9 - 1))) else (none)) else (none))) else (some (x8, 0))
end
def num_Divide.f (k : Nat) (a0 : Int) (l1 : List Int) : Option (List Int × Int) := (num_weighed.f k a0 l1).bind fun bt874 => (if bt874.2 = 0 then (if 0 ≤ (l1.length : Int) then (if ((l1.length : Int) : Int).toNat ≤ 35184372088832 then ((some (List.replicate ((l1.length : Int) : Int).toNat 0 : List Int)).bind fun y876 => (if bt874.1 = 0 then (some (y876, 0)) else (num_Divide.l0 k a0 l1 bt874.1 y876 0 l1 (l1.length : Int) 0))) else (none)) else (none)) else (some (([] : List Int), bt874.2)))
set_option maxHeartbeats 8000000 in
set_option maxRecDepth 100000 in
theorem num_Divide.calls (k : Nat) (a0 : Int) (A1 : Option Addr) (c1 : Nat) (l1 : List Int) (r1 : List Int) (r2 : Int) (w : World) (hr1 : Kd.C (Kd.int .i64) w A1 l1.length l1) (hc1 : l1.length ≤ c1) (h : num_Divide.f k a0 l1 = some (r1, r2)) :
  Calls Tryd.prog 49 #[.int .i64 a0, .slice A1 l1.length c1] w fun e w' => ∃ v0_ : Value, e = .returned (.tuple #[v0_, .int .i64 r2]) ∧ Kd.R (Kd.int .i64) 3 w' w.heap.size (fun _ => True) v0_ r1 ∧ Below w.heap.size w w' := by
 have HR1 := Aside0.mk hr1
 have HC1 := Aside0.mk hc1
 clear hr1 hc1
 have HB := Aside0.mk (Below.refl w.heap.size w)
 have H : ((num_weighed.f k a0 l1).bind fun bt874 => (if bt874.2 = 0 then (if 0 ≤ (l1.length : Int) then (if ((l1.length : Int) : Int).toNat ≤ 35184372088832 then ((some (List.replicate ((l1.length : Int) : Int).toNat 0 : List Int)).bind fun y876 => (if bt874.1 = 0 then (some (y876, 0)) else (num_Divide.l0 k a0 l1 bt874.1 y876 0 l1 (l1.length : Int) 0))) else (none)) else (none)) else (some (([] : List Int), bt874.2)))) = some (r1, r2) := h
 clear h
 replace H := Option.bind_eq_some_iff.mp H
 obtain ⟨⟨t874, t875⟩, A30, H⟩ := H
 replace H : (if t875 = 0 then (if 0 ≤ (l1.length : Int) then (if ((l1.length : Int) : Int).toNat ≤ 35184372088832 then ((some (List.replicate ((l1.length : Int) : Int).toNat 0 : List Int)).bind fun y876 => (if t874 = 0 then (some (y876, 0)) else (num_Divide.l0 k a0 l1 t874 y876 0 l1 (l1.length : Int) 0))) else (none)) else (none)) else (some (([] : List Int), t875))) = some (r1, r2) := H
 have A3 := Aside0.mk A30
 clear A30
 by_cases c4 : t875 = 0
 ·rw [if_pos c4] at H
  have c4b0 : (t875 == 0) = true := beq_iff_eq.mpr c4
  have c4b1 : (t875 != 0) = false := bne_eq_false_iff_eq.mpr c4
  clear c4
  by_cases c5 : 0 ≤ (l1.length : Int)
  ·rw [if_pos c5] at H
   have c5b0 := eq_true c5
   have c5b1 : decide (0 ≤ (l1.length : Int)) = true := decide_eq_true c5
   clear c5
   by_cases c6 : ((l1.length : Int) : Int).toNat ≤ 35184372088832
   ·rw [if_pos c6] at H
    have c6b0 := eq_true c6
    have c6b1 : decide (((l1.length : Int) : Int).toNat ≤ 35184372088832) = true := decide_eq_true c6
    clear c6
    obtain ⟨y876, hy876⟩ : ∃ y_ : List Int, y_ = (List.replicate ((l1.length : Int) : Int).toNat 0) := ⟨_, rfl⟩
    replace H : (if t874 = 0 then (some (y876, 0)) else (num_Divide.l0 k a0 l1 t874 y876 0 l1 (l1.length : Int) 0)) = some (r1, r2) := by first | (rw [hy876]; with_reducible exact H) | (have H2_ := (Option.bind_some _ _).symm.trans H; rw [hy876]; with_reducible exact H2_) | (have H2_ := (Option.bind_some _ _).symm.trans H; with_reducible exact H2_) | with_reducible exact H | (rw [hy876]; exact H) | exact H
    have Ny876 := Aside0.mk hy876
    clear hy876
    by_cases c7 : t874 = 0
    ·rw [if_pos c7] at H
     have c7b0 : (t874 == 0) = true := beq_iff_eq.mpr c7
     have c7b1 : (t874 != 0) = false := bne_eq_false_iff_eq.mpr c7
     clear c7
     simp only [Option.some.injEq, Prod.mk.injEq] at H
     obtain ⟨rfl, rfl⟩ := H
     go_enter Tryd.func49, Tryd.ntmps49
     go_wp2_with (first | ((with_reducible refine gate_callee (f := 92) rfl ?_); refine goesL_ (some 17) rfl rfl Tryd.func92 (by kernel_rfl) rfl #[.int .i64 a0, .slice A1 l1.length c1] rfl qe_ ?_; (with_reducible refine (num_weighed.calls k a0 _ _ l1 t874 t875 _ ?side1 ?side2 A3.out).mono ?_); (case side1 => repeat (first | exact HR1.out | (with_reducible refine Kd.C_alloc ?_ _) | (with_reducible refine Kd.C_drewN ?_ _) | (with_reducible refine Kd.C_drew ?_))); (case side2 => exact HC1.out); rintro e w' ⟨rfl, ⟨nd, rfl⟩⟩; refine ⟨_, rfl, ?_⟩) | ((with_reducible refine gate_dst (N := 25) rfl ?_); refine Kd.R_make (Kd.int .i64) _ 3 rfl (N := 25) rfl 29 _ _ rfl (l1.length : Int) rfl rfl Tryd.underlying29 (.int .i64 0) 8 info3 rfl (by decide) (by omega) 0 (ok := fun _ => True) (okp := fun _ => True) rfl (fun _ hk => hk) trivial (od_) (Nat.le_trans (Nat.mul_le_mul_right _ (od_ : (l1.length : Int).toNat ≤ 35184372088832)) (by omega)) (Below.refl _ _) (Nat.le_refl _) ?_; intro v877 w8 ho9 hb hg_ hnew_; clear hg_ hnew_; (first | rw [← Ny876.out] at ho9 | (simp only [Int.reduceToNat] at ho9; rw [← Ny876.out] at ho9)); have n0_ := Aside0.mk (Kd.R_lower ho9 (below_size (q0_ HB.out))); have n1_ := Aside0.mk (below_step (q0_ HB.out) hb); clear HB; have HO878 := n0_; have HB := n1_; clear n0_ n1_; clear hb ho9))
     go_ret2
     exact ⟨_, by first | rfl | (simp [errW_none, errW_some] <;> rfl) | (simp [*, errW_none, errW_some] <;> rfl), by refine qr_ ?_; exact HO878.out, (q0_ HB.out)⟩
    ·rw [if_neg c7] at H
     have c7b0 : (t874 == 0) = false := beq_eq_false_iff_ne.mpr c7
     have c7b1 : (t874 != 0) = true := bne_iff_ne.mpr c7
     have H' := Aside0.mk H
     clear H
     go_enter Tryd.func49, Tryd.ntmps49
     go_wp2_with (first | ((with_reducible refine gate_callee (f := 92) rfl ?_); refine goesL_ (some 17) rfl rfl Tryd.func92 (by kernel_rfl) rfl #[.int .i64 a0, .slice A1 l1.length c1] rfl qe_ ?_; (with_reducible refine (num_weighed.calls k a0 _ _ l1 t874 t875 _ ?side1 ?side2 A3.out).mono ?_); (case side1 => repeat (first | exact HR1.out | (with_reducible refine Kd.C_alloc ?_ _) | (with_reducible refine Kd.C_drewN ?_ _) | (with_reducible refine Kd.C_drew ?_))); (case side2 => exact HC1.out); rintro e w' ⟨rfl, ⟨nd, rfl⟩⟩; refine ⟨_, rfl, ?_⟩) | ((with_reducible refine gate_dst (N := 25) rfl ?_); refine Kd.R_make (Kd.int .i64) _ 3 rfl (N := 25) rfl 29 _ _ rfl (l1.length : Int) rfl rfl Tryd.underlying29 (.int .i64 0) 8 info3 rfl (by decide) (by omega) 0 (ok := fun _ => True) (okp := fun _ => True) rfl (fun _ hk => hk) trivial (od_) (Nat.le_trans (Nat.mul_le_mul_right _ (od_ : (l1.length : Int).toNat ≤ 35184372088832)) (by omega)) (Below.refl _ _) (Nat.le_refl _) ?_; intro v877 w10 ho11 hb hg_ hnew_; clear hg_ hnew_; (first | rw [← Ny876.out] at ho11 | (simp only [Int.reduceToNat] at ho11; rw [← Ny876.out] at ho11)); have n0_ := Aside0.mk (Kd.R_lower ho11 (below_size (q0_ HB.out))); have n1_ := Aside0.mk (below_step (q0_ HB.out) hb); clear HB; have HO878 := n0_; have HB := n1_; clear n0_ n1_; clear hb ho11))
     go_loopg [9, 31] k (fun kq v9 v31 w' => ∃ (x8_1 : List Int) (x9_1 : Int) (x31_1 : Int), v9 = .int .i64 x9_1 ∧ v31 = .int .i64 x31_1 ∧ Aside0 (num_Divide.l0 kq a0 l1 t874 x8_1 x9_1 l1 (l1.length : Int) x31_1 = some (r1, r2)) ∧ Aside0 (kq ≤ k) ∧ Aside0 (Kd.R (Kd.int .i64) 3 w' w.heap.size (fun _ => True) v877 x8_1) ∧ Aside0 (Below w.heap.size w w'))
     case atStart => exact ⟨(y876), (0), (0), (by first | rfl | (simp; done) | (simp [*]; done)), (by first | rfl | (simp; done) | (simp [*]; done)), H', ⟨Nat.le_refl _⟩, ⟨by refine qr_ ?_; exact HO878.out⟩, ⟨(q0_ HB.out)⟩⟩
     case round =>
      clear H'
      try clear c1
      try clear p2
      try clear c4
      try clear c4b0
      try clear c4b1
      try clear c5
      try clear c5b0
      try clear c5b1
      try clear c6
      try clear c6b0
      try clear c6b1
      try clear c7
      try clear c7b0
      try clear c7b1
      try clear c9
      obtain ⟨x8_1, x9_1, x31_1, rfl, rfl, HA, HK1, HO_8, HB⟩ := hrel
      cases gk with
      | zero => exact absurd HA.out (by simp [num_Divide.l0])
      | succ k1 =>
       have H := HA.out
       clear HA
       simp only [num_Divide.l0] at H
       by_cases c12 : x31_1 < (l1.length : Int)
       ·rw [if_pos c12] at H
        have c12b0 : decide (x31_1 < (l1.length : Int)) = true := decide_eq_true c12
        clear c12
        by_cases c13 : 0 ≤ x31_1
        ·rw [if_pos c13] at H
         have c13b0 : decide (0 ≤ x31_1) = true := decide_eq_true c13
         clear c13
         by_cases c14 : x31_1 < (l1.length : Int)
         ·rw [if_pos c14] at H
          have c14b0 : decide (x31_1 < (l1.length : Int)) = true := decide_eq_true c14
          clear c14
          replace H := Option.bind_eq_some_iff.mp H
          obtain ⟨⟨t880, t881⟩, A150, H⟩ := H
          replace H : (if (wrap64 (2 * t881)) ≥ t874 then (if x31_1 < (x8_1.length : Int) then (num_Divide.l0 k1 a0 l1 t874 (x8_1.set (x31_1 : Int).toNat (wrap64 (t880 + 1))) (wrap64 (x9_1 + (wrap64 (t880 + 1)))) l1 (l1.length : Int) (wrap64 (x31_1 + 1))) else (none)) else (if x31_1 < (x8_1.length : Int) then (num_Divide.l0 k1 a0 l1 t874 (x8_1.set (x31_1 : Int).toNat t880) (wrap64 (x9_1 + t880)) l1 (l1.length : Int) (wrap64 (x31_1 + 1))) else (none))) = some (r1, r2) := H
          have A15 := Aside0.mk A150
          clear A150
          by_cases c16 : (wrap64 (2 * t881)) ≥ t874
          ·rw [if_pos c16] at H
           have c16b0 : decide (t874 ≤ (wrap64 (2 * t881))) = true := decide_eq_true c16
           clear c16
           by_cases c17 : x31_1 < (x8_1.length : Int)
           ·rw [if_pos c17] at H
            have c17b0 : decide (x31_1 < (x8_1.length : Int)) = true := decide_eq_true c17
            clear c17
            obtain ⟨y882, hy882⟩ : ∃ y_ : List Int, y_ = (x8_1.set (x31_1 : Int).toNat (wrap64 (t880 + 1))) := ⟨_, rfl⟩
            replace H : (num_Divide.l0 k1 a0 l1 t874 y882 (wrap64 (x9_1 + (wrap64 (t880 + 1)))) l1 (l1.length : Int) (wrap64 (x31_1 + 1))) = some (r1, r2) := by first | (rw [hy882]; with_reducible exact H) | (have H2_ := (Option.bind_some _ _).symm.trans H; rw [hy882]; with_reducible exact H2_) | (have H2_ := (Option.bind_some _ _).symm.trans H; with_reducible exact H2_) | with_reducible exact H | (rw [hy882]; exact H) | exact H
            have Ny882 := Aside0.mk hy882
            clear hy882
            have H' := Aside0.mk H
            clear H
            have p879 : 0 ≤ (x31_1 : Int) := od_
            have q879 : x31_1 < (l1.length : Int) := od_
            obtain ⟨ad879, e879, hx879_0⟩ := Kd.at_int HR1.out x31_1 p879 q879
            cases e879
            replace hx879_0 := (HB.out.cell (World.block_lt_of_cell? w _ hx879_0)).trans hx879_0
            replace p879 := eq_true p879
            replace q879 := eq_true q879
            go_wp2_with (first | ((with_reducible refine gate_callee (f := 93) rfl ?_); refine goesL_ (some 40) rfl rfl Tryd.func93 (by kernel_rfl) rfl #[.int .i64 a0, .int .i64 (rd l1 x31_1), .int .i64 t874] rfl qe_ ?_; (with_reducible refine (num_share.calls k1 a0 (rd l1 x31_1) t874 t880 t881 _ A15.out).mono ?_); rintro e w' ⟨rfl, ⟨nd, rfl⟩⟩; refine ⟨_, rfl, ?_⟩; (try (rw [drewN_self wr]; generalize hq_ : World.drewN wr _ = wr; have n0_ : Aside0 (Kd.R (Kd.int .i64) 3 wr w.heap.size (fun _ => True) v877 x8_1) := ⟨by rw [← hq_]; exact (qr_ HO_8.out)⟩; have n1_ : Aside0 (Below w.heap.size w wr) := ⟨by rw [← hq_]; exact (q0_ HB.out)⟩; clear HO_8 HB hq_; have HO_8 := n0_; have HB := n1_; clear n0_ n1_)); have p18 : 0 ≤ (x31_1 : Int) := od_; have q18 : (x31_1 : Int) < ((x8_1.length : Int) : Int) := od_; obtain ⟨go18, co18, eo18, gb18, gl18, cl18, HG18⟩ := Kd.R_form HO_8.out (by omega); (first | cases eo18 | (injection eo18 with ea_ en_ ec_; (first | subst ea_ | (injection ea_ with ea_; subst ea_)); subst ec_; clear en_)); have GB18 := Aside0.mk gb18; have GG18 := Aside0.mk HG18; clear gb18 gl18 HG18; obtain ⟨hx18_0, hf18_0⟩ := Kd.R_celln 0 HO_8.out (x31_1 : Int) p18 q18; replace p18 := eq_true p18; replace q18 := eq_true q18; obtain ⟨hy19_, hz19_⟩ := Kd.R_celln 0 HO_8.out (x31_1 : Int) (od_) (od_); have HP19 := Kd.R_putg HO_8.out (x31_1 : Int) (wrap64 (t880 + 1))) | ((with_reducible refine gate_store (t := 3) (p := 52) rfl ?_); refine store_event (t := 3) (p := 52) (v := ?vo_w20) (w1 := (wr.setCell ⟨go18, (x31_1 : Int).toNat, none⟩ (.int .i64 (wrap64 (t880 + 1))))) ?hg ?ho ?hn ?hr ?_; (case ho => rfl); (case hg => rfl); (case hn => rfl); (case hr => first | (go_simp; done) | (go_simp; rfl)); intro w20 hw; have hg : wr.grownBy w20 (some go18) := (by rw [hw]; exact HP19.2); have hp_ : Kd.R (Kd.int .i64) 3 w20 w.heap.size (fun _ => True) (.slice (some ⟨go18, 0, none⟩) x8_1.length co18) y882 := (by rw [hw, Ny882.out]; exact HP19.1); clear HP19; have n0_ := Aside0.mk (hp_); have n1_ := Aside0.mk ((by rw [hw]; exact below_set (HB.out) GB18.out : Below w.heap.size w w20)); clear HO_8; clear HB; have HO_8 := n0_; have HB := n1_; clear n0_ n1_; clear hg hw hp_))
            go_roundg k1
            case measure => have := HK1.out; omega
            case rel => exact ⟨(y882), (wrap64 (x9_1 + (wrap64 (t880 + 1)))), (wrap64 (x31_1 + 1)), (by first | rfl | (simp; done) | (simp [*]; done)), (by first | rfl | (simp; done) | (simp [*]; done)), H', ⟨by have := HK1.out; omega⟩, ⟨by refine qr_ ?_; exact HO_8.out⟩, ⟨(q0_ HB.out)⟩⟩
           ·rw [if_neg c17] at H
            exact absurd H (by simp)
          ·rw [if_neg c16] at H
           have c16b0 : decide (t874 ≤ (wrap64 (2 * t881))) = false := decide_eq_false c16
           clear c16
           by_cases c21 : x31_1 < (x8_1.length : Int)
           ·rw [if_pos c21] at H
            have c21b0 : decide (x31_1 < (x8_1.length : Int)) = true := decide_eq_true c21
            clear c21
            obtain ⟨y883, hy883⟩ : ∃ y_ : List Int, y_ = (x8_1.set (x31_1 : Int).toNat t880) := ⟨_, rfl⟩
            replace H : (num_Divide.l0 k1 a0 l1 t874 y883 (wrap64 (x9_1 + t880)) l1 (l1.length : Int) (wrap64 (x31_1 + 1))) = some (r1, r2) := by first | (rw [hy883]; with_reducible exact H) | (have H2_ := (Option.bind_some _ _).symm.trans H; rw [hy883]; with_reducible exact H2_) | (have H2_ := (Option.bind_some _ _).symm.trans H; with_reducible exact H2_) | with_reducible exact H | (rw [hy883]; exact H) | exact H
            have Ny883 := Aside0.mk hy883
            clear hy883
            have H' := Aside0.mk H
            clear H
            have p879 : 0 ≤ (x31_1 : Int) := od_
            have q879 : x31_1 < (l1.length : Int) := od_
            obtain ⟨ad879, e879, hx879_0⟩ := Kd.at_int HR1.out x31_1 p879 q879
            cases e879
            replace hx879_0 := (HB.out.cell (World.block_lt_of_cell? w _ hx879_0)).trans hx879_0
            replace p879 := eq_true p879
            replace q879 := eq_true q879
            go_wp2_with (first | ((with_reducible refine gate_callee (f := 93) rfl ?_); refine goesL_ (some 40) rfl rfl Tryd.func93 (by kernel_rfl) rfl #[.int .i64 a0, .int .i64 (rd l1 x31_1), .int .i64 t874] rfl qe_ ?_; (with_reducible refine (num_share.calls k1 a0 (rd l1 x31_1) t874 t880 t881 _ A15.out).mono ?_); rintro e w' ⟨rfl, ⟨nd, rfl⟩⟩; refine ⟨_, rfl, ?_⟩; (try (rw [drewN_self wr]; generalize hq_ : World.drewN wr _ = wr; have n0_ : Aside0 (Kd.R (Kd.int .i64) 3 wr w.heap.size (fun _ => True) v877 x8_1) := ⟨by rw [← hq_]; exact (qr_ HO_8.out)⟩; have n1_ : Aside0 (Below w.heap.size w wr) := ⟨by rw [← hq_]; exact (q0_ HB.out)⟩; clear HO_8 HB hq_; have HO_8 := n0_; have HB := n1_; clear n0_ n1_)); have p22 : 0 ≤ (x31_1 : Int) := od_; have q22 : (x31_1 : Int) < ((x8_1.length : Int) : Int) := od_; obtain ⟨go22, co22, eo22, gb22, gl22, cl22, HG22⟩ := Kd.R_form HO_8.out (by omega); (first | cases eo22 | (injection eo22 with ea_ en_ ec_; (first | subst ea_ | (injection ea_ with ea_; subst ea_)); subst ec_; clear en_)); have GB22 := Aside0.mk gb22; have GG22 := Aside0.mk HG22; clear gb22 gl22 HG22; obtain ⟨hx22_0, hf22_0⟩ := Kd.R_celln 0 HO_8.out (x31_1 : Int) p22 q22; replace p22 := eq_true p22; replace q22 := eq_true q22; obtain ⟨hy23_, hz23_⟩ := Kd.R_celln 0 HO_8.out (x31_1 : Int) (od_) (od_); have HP23 := Kd.R_putg HO_8.out (x31_1 : Int) t880) | ((with_reducible refine gate_store (t := 3) (p := 52) rfl ?_); refine store_event (t := 3) (p := 52) (v := ?vo_w24) (w1 := (wr.setCell ⟨go22, (x31_1 : Int).toNat, none⟩ (.int .i64 t880))) ?hg ?ho ?hn ?hr ?_; (case ho => rfl); (case hg => rfl); (case hn => rfl); (case hr => first | (go_simp; done) | (go_simp; rfl)); intro w24 hw; have hg : wr.grownBy w24 (some go22) := (by rw [hw]; exact HP23.2); have hp_ : Kd.R (Kd.int .i64) 3 w24 w.heap.size (fun _ => True) (.slice (some ⟨go22, 0, none⟩) x8_1.length co22) y883 := (by rw [hw, Ny883.out]; exact HP23.1); clear HP23; have n0_ := Aside0.mk (hp_); have n1_ := Aside0.mk ((by rw [hw]; exact below_set (HB.out) GB22.out : Below w.heap.size w w24)); clear HO_8; clear HB; have HO_8 := n0_; have HB := n1_; clear n0_ n1_; clear hg hw hp_))
            go_roundg k1
            case measure => have := HK1.out; omega
            case rel => exact ⟨(y883), (wrap64 (x9_1 + t880)), (wrap64 (x31_1 + 1)), (by first | rfl | (simp; done) | (simp [*]; done)), (by first | rfl | (simp; done) | (simp [*]; done)), H', ⟨by have := HK1.out; omega⟩, ⟨by refine qr_ ?_; exact HO_8.out⟩, ⟨(q0_ HB.out)⟩⟩
           ·rw [if_neg c21] at H
            exact absurd H (by simp)
         ·rw [if_neg c14] at H
          exact absurd H (by simp)
        ·rw [if_neg c13] at H
         exact absurd H (by simp)
       ·rw [if_neg c12] at H
        have c12b0 : decide (x31_1 < (l1.length : Int)) = false := decide_eq_false c12
        clear c12
        have H' := Aside0.mk H
        clear H
        go_wp2
        go_loopg [9] k1 (fun kq v9 w' => ∃ (x8_2 : List Int) (x9_2 : Int), v9 = .int .i64 x9_2 ∧ Aside0 (num_Divide.l1 kq a0 l1 x8_2 x9_2 = some (r1, r2)) ∧ Aside0 (kq ≤ k1) ∧ Aside0 (Kd.R (Kd.int .i64) 3 w' w.heap.size (fun _ => True) v877 x8_2) ∧ Aside0 (Below w.heap.size w w'))
        case atStart => exact ⟨(x8_1), (x9_1), (by first | rfl | (simp; done) | (simp [*]; done)), H', ⟨Nat.le_refl _⟩, ⟨by refine qr_ ?_; exact HO_8.out⟩, ⟨(q0_ HB.out)⟩⟩
        case round =>
         clear H'
         try clear c1
         try clear p1
         try clear q1
         try clear hx1
         try clear c2
         try clear p2
         try clear q2
         try clear hx2
         try clear hf2
         try clear c4
         try clear c4b0
         try clear c4b1
         try clear c5
         try clear c5b0
         try clear c5b1
         try clear c6
         try clear c6b0
         try clear c6b1
         try clear p6
         try clear c7
         try clear c7b0
         try clear c7b1
         try clear p8
         try clear q8
         try clear hx8
         try clear c9
         try clear c12
         try clear c12b0
         try clear c13
         try clear c13b0
         try clear c14
         try clear c14b0
         try clear c16
         try clear c16b0
         try clear c17
         try clear c17b0
         try clear p18
         try clear q18
         try clear hx18
         try clear hf18
         try clear c21
         try clear c21b0
         try clear p22
         try clear q22
         try clear hx22
         try clear hf22
         try clear hx18_0
         try clear hx22_0
         try clear hx879_0
         try clear p18
         try clear p2
         try clear p22
         try clear p879
         try clear q18
         try clear q22
         try clear q879
         obtain ⟨x8_2, x9_2, rfl, HA, HK2, HO_8, HB⟩ := hrel
         cases gk with
         | zero => exact absurd HA.out (by simp [num_Divide.l1])
         | succ k2 =>
          have H := HA.out
          clear HA
          simp only [num_Divide.l1] at H
          by_cases c25 : x9_2 < a0
          ·rw [if_pos c25] at H
           have c25b0 : decide (x9_2 < a0) = true := decide_eq_true c25
           clear c25
           replace H := Option.bind_eq_some_iff.mp H
           obtain ⟨t884, A260, H⟩ := H
           replace H : (if 0 ≤ t884 then (if t884 < (x8_2.length : Int) then (num_Divide.l1 k2 a0 l1 (x8_2.set (t884 : Int).toNat (wrap64 ((rd x8_2 t884) + 1))) (wrap64 (x9_2 + 1))) else (none)) else (none)) = some (r1, r2) := H
           have A26 := Aside0.mk A260
           clear A260
           by_cases c27 : 0 ≤ t884
           ·rw [if_pos c27] at H
            have c27b0 : decide (0 ≤ t884) = true := decide_eq_true c27
            clear c27
            by_cases c28 : t884 < (x8_2.length : Int)
            ·rw [if_pos c28] at H
             have c28b0 : decide (t884 < (x8_2.length : Int)) = true := decide_eq_true c28
             clear c28
             obtain ⟨y886, hy886⟩ : ∃ y_ : List Int, y_ = (x8_2.set (t884 : Int).toNat (wrap64 ((rd x8_2 t884) + 1))) := ⟨_, rfl⟩
             replace H : (num_Divide.l1 k2 a0 l1 y886 (wrap64 (x9_2 + 1))) = some (r1, r2) := by first | (rw [hy886]; with_reducible exact H) | (have H2_ := (Option.bind_some _ _).symm.trans H; rw [hy886]; with_reducible exact H2_) | (have H2_ := (Option.bind_some _ _).symm.trans H; with_reducible exact H2_) | with_reducible exact H | (rw [hy886]; exact H) | exact H
             have Ny886 := Aside0.mk hy886
             clear hy886
             have H' := Aside0.mk H
             clear H
             obtain ⟨Ao30, co30, eo30⟩ := Kd.R_slice HO_8.out
             subst eo30
             go_wp2_with (first | ((with_reducible refine gate_callee (f := 87) rfl ?_); refine goesL_ (some 65) rfl rfl Tryd.func87 (by kernel_rfl) rfl #[.slice Ao30 x8_2.length co30, .slice A1 l1.length c1] rfl qe_ ?_; (with_reducible refine (num_next.calls k2 _ _ x8_2 _ _ l1 t884 _ ?side1 ?side2 ?side3 ?side4 A26.out).mono ?_); (case side1 => exact qc_ (Kd.R_reads' HO_8.out).2.2); (case side2 => exact (Kd.R_reads' HO_8.out).2.1); (case side3 => exact qc_ (Kd.C_below HR1.out HB.out)); (case side4 => exact HC1.out); rintro e w31 ⟨rfl, hb⟩; refine ⟨_, rfl, ?_⟩; have n0_ := Aside0.mk (Kd.R_below (qr_ HO_8.out) hb); have n1_ := Aside0.mk (below_step (q0_ HB.out) hb); clear HO_8; clear HB; have HO_8 := n0_; have HB := n1_; clear n0_ n1_; (try clear hb); (try clear hb2); (try clear hk); (try clear hi); have p885 : 0 ≤ (t884 : Int) := od_; have q885 : t884 < (x8_2.length : Int) := od_; obtain ⟨ad885, e885, hx885_0⟩ := Kd.at_int (Kd.R_reads' HO_8.out).2.2 t884 p885 q885; cases e885; replace p885 := eq_true p885; replace q885 := eq_true q885; have p29 : 0 ≤ (t884 : Int) := od_; have q29 : (t884 : Int) < ((x8_2.length : Int) : Int) := od_; obtain ⟨go29, co29, eo29, gb29, gl29, cl29, HG29⟩ := Kd.R_form HO_8.out (by omega); (first | cases eo29 | (injection eo29 with ea_ en_ ec_; (first | subst ea_ | (injection ea_ with ea_; subst ea_)); subst ec_; clear en_)); have GB29 := Aside0.mk gb29; have GG29 := Aside0.mk HG29; clear gb29 gl29 HG29; (first | simp only [add_plain] at hx885_0 | skip); obtain ⟨hx29_0, hf29_0⟩ := Kd.R_celln 0 HO_8.out (t884 : Int) p29 q29; replace p29 := eq_true p29; replace q29 := eq_true q29; obtain ⟨hy32_, hz32_⟩ := Kd.R_celln 0 HO_8.out (t884 : Int) (od_) (od_); have HP32 := Kd.R_putg HO_8.out (t884 : Int) (wrap64 ((rd x8_2 t884) + 1))) | ((with_reducible refine gate_store (t := 3) (p := 69) rfl ?_); refine store_event (t := 3) (p := 69) (v := ?vo_w33) (w1 := (w31.setCell ⟨go29, (t884 : Int).toNat, none⟩ (.int .i64 (wrap64 ((rd x8_2 t884) + 1))))) ?hg ?ho ?hn ?hr ?_; (case ho => rfl); (case hg => rfl); (case hn => rfl); (case hr => first | (go_simp; done) | (go_simp; rfl)); intro w33 hw; have hg : w31.grownBy w33 (some go29) := (by rw [hw]; exact HP32.2); have hp_ : Kd.R (Kd.int .i64) 3 w33 w.heap.size (fun _ => True) (.slice (some ⟨go29, 0, none⟩) x8_2.length co30) y886 := (by rw [hw, Ny886.out]; exact HP32.1); clear HP32; have n0_ := Aside0.mk (hp_); have n1_ := Aside0.mk ((by rw [hw]; exact below_set (HB.out) GB29.out : Below w.heap.size w w33)); clear HO_8; clear HB; have HO_8 := n0_; have HB := n1_; clear n0_ n1_; clear hg hw hp_))
             go_roundg k2
             case measure => have := HK1.out; have := HK2.out; omega
             case rel => exact ⟨(y886), (wrap64 (x9_2 + 1)), (by first | rfl | (simp; done) | (simp [*]; done)), H', ⟨by have := HK1.out; have := HK2.out; omega⟩, ⟨by refine qr_ ?_; exact HO_8.out⟩, ⟨(q0_ HB.out)⟩⟩
            ·rw [if_neg c28] at H
             exact absurd H (by simp)
           ·rw [if_neg c27] at H
            exact absurd H (by simp)
          ·rw [if_neg c25] at H
           have c25b0 : decide (x9_2 < a0) = false := decide_eq_false c25
           clear c25
           have H' := Aside0.mk H
           clear H
           go_wp2
           go_loopg [9] k2 (fun kq v9 w' => ∃ (x8_3 : List Int) (x9_3 : Int), v9 = .int .i64 x9_3 ∧ Aside0 (num_Divide.l2 kq a0 l1 x8_3 x9_3 = some (r1, r2)) ∧ Aside0 (kq ≤ k2) ∧ Aside0 (Kd.R (Kd.int .i64) 3 w' w.heap.size (fun _ => True) v877 x8_3) ∧ Aside0 (Below w.heap.size w w'))
           case atStart => exact ⟨(x8_2), (x9_2), (by first | rfl | (simp; done) | (simp [*]; done)), H', ⟨Nat.le_refl _⟩, ⟨by refine qr_ ?_; exact HO_8.out⟩, ⟨(q0_ HB.out)⟩⟩
           case round =>
            clear H'
            try clear c1
            try clear p1
            try clear q1
            try clear hx1
            try clear c2
            try clear p2
            try clear q2
            try clear hx2
            try clear hf2
            try clear c4
            try clear c4b0
            try clear c4b1
            try clear c5
            try clear c5b0
            try clear c5b1
            try clear c6
            try clear c6b0
            try clear c6b1
            try clear p6
            try clear c7
            try clear c7b0
            try clear c7b1
            try clear c8
            try clear p8
            try clear q8
            try clear hx8
            try clear c9
            try clear c12
            try clear c12b0
            try clear c13
            try clear c13b0
            try clear c14
            try clear c14b0
            try clear c16
            try clear c16b0
            try clear c17
            try clear c17b0
            try clear p18
            try clear q18
            try clear hx18
            try clear hf18
            try clear c21
            try clear c21b0
            try clear p22
            try clear q22
            try clear hx22
            try clear hf22
            try clear c25
            try clear c25b0
            try clear c27
            try clear c27b0
            try clear c28
            try clear c28b0
            try clear p29
            try clear q29
            try clear hx29
            try clear hf29
            try clear hx18_0
            try clear hx22_0
            try clear hx29_0
            try clear hx879_0
            try clear hx885_0
            try clear p1
            try clear p18
            try clear p2
            try clear p22
            try clear p29
            try clear p6
            try clear p8
            try clear p879
            try clear p885
            try clear q1
            try clear q18
            try clear q2
            try clear q22
            try clear q29
            try clear q8
            try clear q879
            try clear q885
            obtain ⟨x8_3, x9_3, rfl, HA, HK3, HO_8, HB⟩ := hrel
            cases gk with
            | zero => exact absurd HA.out (by simp [num_Divide.l2])
            | succ k3 =>
             have H := HA.out
             clear HA
             simp only [num_Divide.l2] at H
             by_cases c34 : x9_3 > a0
             ·rw [if_pos c34] at H
              have c34b0 : decide (a0 < x9_3) = true := decide_eq_true c34
              clear c34
              replace H := Option.bind_eq_some_iff.mp H
              obtain ⟨t887, A350, H⟩ := H
              replace H : (if 0 ≤ t887 then (if t887 < (x8_3.length : Int) then (num_Divide.l2 k3 a0 l1 (x8_3.set (t887 : Int).toNat (wrap64 ((rd x8_3 t887) - 1))) (wrap64 (x9_3 - 1))) else (none)) else (none)) = some (r1, r2) := H
              have A35 := Aside0.mk A350
              clear A350
              by_cases c36 : 0 ≤ t887
              ·rw [if_pos c36] at H
               have c36b0 : decide (0 ≤ t887) = true := decide_eq_true c36
               clear c36
               by_cases c37 : t887 < (x8_3.length : Int)
               ·rw [if_pos c37] at H
                have c37b0 : decide (t887 < (x8_3.length : Int)) = true := decide_eq_true c37
                clear c37
                obtain ⟨y889, hy889⟩ : ∃ y_ : List Int, y_ = (x8_3.set (t887 : Int).toNat (wrap64 ((rd x8_3 t887) - 1))) := ⟨_, rfl⟩
                replace H : (num_Divide.l2 k3 a0 l1 y889 (wrap64 (x9_3 - 1))) = some (r1, r2) := by first | (rw [hy889]; with_reducible exact H) | (have H2_ := (Option.bind_some _ _).symm.trans H; rw [hy889]; with_reducible exact H2_) | (have H2_ := (Option.bind_some _ _).symm.trans H; with_reducible exact H2_) | with_reducible exact H | (rw [hy889]; exact H) | exact H
                have Ny889 := Aside0.mk hy889
                clear hy889
                have H' := Aside0.mk H
                clear H
                obtain ⟨Ao39, co39, eo39⟩ := Kd.R_slice HO_8.out
                subst eo39
                go_wp2_with (first | ((with_reducible refine gate_callee (f := 88) rfl ?_); refine goesL_ (some 78) rfl rfl Tryd.func88 (by kernel_rfl) rfl #[.slice Ao39 x8_3.length co39, .slice A1 l1.length c1] rfl qe_ ?_; (with_reducible refine (num_latest.calls k3 _ _ x8_3 _ _ l1 t887 _ ?side1 ?side2 ?side3 ?side4 A35.out).mono ?_); (case side1 => exact qc_ (Kd.R_reads' HO_8.out).2.2); (case side2 => exact (Kd.R_reads' HO_8.out).2.1); (case side3 => exact qc_ (Kd.C_below HR1.out HB.out)); (case side4 => exact HC1.out); rintro e w40 ⟨rfl, hb⟩; refine ⟨_, rfl, ?_⟩; have n0_ := Aside0.mk (Kd.R_below (qr_ HO_8.out) hb); have n1_ := Aside0.mk (below_step (q0_ HB.out) hb); clear HO_8; clear HB; have HO_8 := n0_; have HB := n1_; clear n0_ n1_; (try clear hb); (try clear hb2); (try clear hk); (try clear hi); have p888 : 0 ≤ (t887 : Int) := od_; have q888 : t887 < (x8_3.length : Int) := od_; obtain ⟨ad888, e888, hx888_0⟩ := Kd.at_int (Kd.R_reads' HO_8.out).2.2 t887 p888 q888; cases e888; replace p888 := eq_true p888; replace q888 := eq_true q888; have p38 : 0 ≤ (t887 : Int) := od_; have q38 : (t887 : Int) < ((x8_3.length : Int) : Int) := od_; obtain ⟨go38, co38, eo38, gb38, gl38, cl38, HG38⟩ := Kd.R_form HO_8.out (by omega); (first | cases eo38 | (injection eo38 with ea_ en_ ec_; (first | subst ea_ | (injection ea_ with ea_; subst ea_)); subst ec_; clear en_)); have GB38 := Aside0.mk gb38; have GG38 := Aside0.mk HG38; clear gb38 gl38 HG38; (first | simp only [add_plain] at hx888_0 | skip); obtain ⟨hx38_0, hf38_0⟩ := Kd.R_celln 0 HO_8.out (t887 : Int) p38 q38; replace p38 := eq_true p38; replace q38 := eq_true q38; obtain ⟨hy41_, hz41_⟩ := Kd.R_celln 0 HO_8.out (t887 : Int) (od_) (od_); have HP41 := Kd.R_putg HO_8.out (t887 : Int) (wrap64 ((rd x8_3 t887) - 1))) | ((with_reducible refine gate_store (t := 3) (p := 82) rfl ?_); refine store_event (t := 3) (p := 82) (v := ?vo_w42) (w1 := (w40.setCell ⟨go38, (t887 : Int).toNat, none⟩ (.int .i64 (wrap64 ((rd x8_3 t887) - 1))))) ?hg ?ho ?hn ?hr ?_; (case ho => rfl); (case hg => rfl); (case hn => rfl); (case hr => first | (go_simp; done) | (go_simp; rfl)); intro w42 hw; have hg : w40.grownBy w42 (some go38) := (by rw [hw]; exact HP41.2); have hp_ : Kd.R (Kd.int .i64) 3 w42 w.heap.size (fun _ => True) (.slice (some ⟨go38, 0, none⟩) x8_3.length co39) y889 := (by rw [hw, Ny889.out]; exact HP41.1); clear HP41; have n0_ := Aside0.mk (hp_); have n1_ := Aside0.mk ((by rw [hw]; exact below_set (HB.out) GB38.out : Below w.heap.size w w42)); clear HO_8; clear HB; have HO_8 := n0_; have HB := n1_; clear n0_ n1_; clear hg hw hp_))
                go_roundg k3
                case measure => have := HK1.out; have := HK2.out; have := HK3.out; omega
                case rel => exact ⟨(y889), (wrap64 (x9_3 - 1)), (by first | rfl | (simp; done) | (simp [*]; done)), H', ⟨by have := HK1.out; have := HK2.out; have := HK3.out; omega⟩, ⟨by refine qr_ ?_; exact HO_8.out⟩, ⟨(q0_ HB.out)⟩⟩
               ·rw [if_neg c37] at H
                exact absurd H (by simp)
              ·rw [if_neg c36] at H
               exact absurd H (by simp)
             ·rw [if_neg c34] at H
              have c34b0 : decide (a0 < x9_3) = false := decide_eq_false c34
              clear c34
              simp only [Option.some.injEq, Prod.mk.injEq] at H
              obtain ⟨rfl, rfl⟩ := H
              go_wp2
              go_ret2
              exact ⟨_, by first | rfl | (simp [errW_none, errW_some] <;> rfl) | (simp [*, errW_none, errW_some] <;> rfl), by refine qr_ ?_; exact HO_8.out, (q0_ HB.out)⟩
   ·rw [if_neg c6] at H
    exact absurd H (by simp)
  ·rw [if_neg c5] at H
   exact absurd H (by simp)
 ·rw [if_neg c4] at H
  have c4b0 : (t875 == 0) = false := beq_eq_false_iff_ne.mpr c4
  have c4b1 : (t875 != 0) = true := bne_iff_ne.mpr c4
  simp only [Option.some.injEq, Prod.mk.injEq] at H
  obtain ⟨rfl, rfl⟩ := H
  go_enter Tryd.func49, Tryd.ntmps49
  go_wp2_with (first | ((with_reducible refine gate_callee (f := 92) rfl ?_); refine goesL_ (some 17) rfl rfl Tryd.func92 (by kernel_rfl) rfl #[.int .i64 a0, .slice A1 l1.length c1] rfl qe_ ?_; (with_reducible refine (num_weighed.calls k a0 _ _ l1 t874 t875 _ ?side1 ?side2 A3.out).mono ?_); (case side1 => repeat (first | exact HR1.out | (with_reducible refine Kd.C_alloc ?_ _) | (with_reducible refine Kd.C_drewN ?_ _) | (with_reducible refine Kd.C_drew ?_))); (case side2 => exact HC1.out); rintro e w' ⟨rfl, ⟨nd, rfl⟩⟩; refine ⟨_, rfl, ?_⟩))
  go_ret2
  exact ⟨_, by first | rfl | (simp [errW_none, errW_some] <;> rfl) | (simp [*, errW_none, errW_some] <;> rfl), by first | exact Kd.R_nil _ _ _ _ _ | exact Kd.N_nil _ _ _ _ _ | exact Kd.V_nil _ _ _ _ _ | exact Kd.Q_nil _ _ _ _ _ | exact Kd.S_nil _ _ _ _ _, (q0_ HB.out)⟩
end Go.Proofs.YtdjnneflpkllmaaDoor.Q

namespace Go.Proofs.Num
open Go.RowKit Go.Proofs.YtdjnneflpkllmaaDoorW.PrintWords Go.Proofs.YtdjnneflpkllmaaDoorW.PrintMore Go.Proofs.YtdjnneflpkllmaaDoor.Q
set_option linter.unusedVariables false
set_option linter.unusedSimpArgs false
def weigh (N : Int) (l : List Int) : Int × Int :=
  if 256 < l.length then (0, 3) else if N < 0 ∨ 1125899906842624 < N then (0, 2)
  else if ∀ x ∈ l, 0 ≤ x ∧ x ≤ 1073741824 then (if sumTo (at_ l) l.length = 0 ∧ N ≠ 0 then (0, 5) else (sumTo (at_ l) l.length, 0)) else (0, 2)
theorem at_mem {l : List Int} {i : Nat} (h : i < l.length) : at_ l i ∈ l := by
  unfold at_
  rw [List.getD_eq_getElem?_getD, List.getElem?_eq_getElem h]
  exact List.getElem_mem h
theorem mem_at {l : List Int} {x : Int} (h : x ∈ l) : ∃ i, i < l.length ∧ at_ l i = x := by
  obtain ⟨i, hi, e⟩ := List.getElem_of_mem h
  exact ⟨i, hi, by unfold at_; rw [List.getD_eq_getElem?_getD, List.getElem?_eq_getElem hi]; exact e⟩
theorem sumTo_max {p : Nat → Int} {c : Int} : ∀ {n : Nat}, (∀ i, i < n → p i ≤ c) → sumTo p n ≤ n * c
  | 0, _ => by simp [sumTo]
  | n + 1, h => by
    have := sumTo_max (n := n) (fun i hi => h i (by omega))
    have := h n (by omega)
    simp only [sumTo]
    rw [Int.natCast_add, Int.add_mul]
    omega
theorem weighed_l0 {N : Int} {l : List Int} (hl : l.length ≤ 256) : ∀ (c i : Nat), l.length - i = c → i ≤ l.length → (∀ j, j < i → 0 ≤ at_ l j ∧ at_ l j ≤ 1073741824) →
    Ev (fun k => num_weighed.l0 k N (sumTo (at_ l) i) l (l.length : Int) (i : Int)) (if ∀ x ∈ l, 0 ≤ x ∧ x ≤ 1073741824 then (if sumTo (at_ l) l.length = 0 ∧ N ≠ 0 then (0, 5) else (sumTo (at_ l) l.length, 0)) else (0, 2)) := by
  intro c
  induction c with
  | zero =>
    intro i hc hi hs
    obtain rfl : i = l.length := by omega
    have all : ∀ x ∈ l, 0 ≤ x ∧ x ≤ 1073741824 := fun x hx => by
      obtain ⟨j, hj, e⟩ := mem_at hx
      rw [← e]; exact hs j hj
    rw [if_pos all]
    refine Ev.step (f := fun _ => some (if sumTo (at_ l) l.length = 0 ∧ N ≠ 0 then (0, 5) else (sumTo (at_ l) l.length, 0))) (fun k => ?_) (Ev.now _)
    rw [num_weighed.l0, if_neg (by omega)]
    by_cases h1 : sumTo (at_ l) l.length = 0
    · by_cases h2 : N = 0
      · rw [if_pos h1, if_pos h2, if_neg (fun h => h.2 h2)]
      · rw [if_pos h1, if_neg h2, if_pos ⟨h1, h2⟩]
    · rw [if_neg h1, if_neg (fun h => h1 h.1)]
  | succ c ih =>
    intro i hc hi hs
    have b0 := sumTo_nonneg (p := at_ l) (n := i) (fun j hj => (hs j hj).1)
    have b1 := sumTo_max (p := at_ l) (c := 1073741824) (n := i) (fun j hj => (hs j hj).2)
    by_cases h1 : 0 ≤ at_ l i ∧ at_ l i ≤ 1073741824
    · have E := ih (i + 1) (by omega) (by omega) (fun j hj => by
        rcases Nat.lt_or_ge j i with h | h
        · exact hs j h
        · obtain rfl : j = i := by omega
          exact h1)
      refine Ev.step (f := fun k => num_weighed.l0 k N (sumTo (at_ l) (i + 1)) l (l.length : Int) ((i + 1 : Nat) : Int)) (fun k => ?_) E
      rw [num_weighed.l0, if_pos (by omega), if_pos (by omega), if_pos (by omega), rd_nat, if_neg (by omega), if_neg (by omega), wd64 (x := (i : Int) + 1) (by omega) (by omega), wd64 (x := sumTo (at_ l) i + at_ l i) (by omega) (by omega)]
      rfl
    · rw [if_neg (fun h => h1 (h _ (at_mem (by omega))))]
      refine Ev.step (f := fun _ => some (0, 2)) (fun k => ?_) (Ev.now _)
      rw [num_weighed.l0, if_pos (by omega), if_pos (by omega), if_pos (by omega), rd_nat]
      by_cases h2 : at_ l i < 0
      · rw [if_pos h2]
      · rw [if_neg h2, if_pos (by omega)]
theorem weighed_ok (N : Int) (l : List Int) : Ev (fun k => num_weighed.f k N l) (weigh N l) := by
  unfold num_weighed.f weigh
  by_cases h1 : 256 < l.length
  · simp only [if_pos h1, if_pos (show (l.length : Int) > 256 by omega)]
    exact Ev.now _
  · simp only [if_neg h1, if_neg (show ¬ (l.length : Int) > 256 by omega)]
    have bad : Ev (fun k => num_weighed.j0 k N l true) (0, 2) := Ev.step (f := fun _ => some (0, 2)) (fun k => by rw [num_weighed.j0, if_pos rfl]) (Ev.now _)
    by_cases h2 : N < 0
    · simp only [if_pos h2, if_pos (show N < 0 ∨ 1125899906842624 < N from Or.inl h2)]
      exact bad
    · simp only [if_neg h2]
      by_cases h3 : N > 1125899906842624
      · simp only [decide_eq_true h3, if_pos (show N < 0 ∨ 1125899906842624 < N from Or.inr h3)]
        exact bad
      · simp only [decide_eq_false h3, if_neg (show ¬ (N < 0 ∨ 1125899906842624 < N) by omega)]
        refine Ev.step (f := fun k => num_weighed.l0 k N (sumTo (at_ l) 0) l (l.length : Int) ((0 : Nat) : Int)) (fun k => ?_) (weighed_l0 (by omega) l.length 0 rfl (by omega) (fun j hj => by omega))
        rw [num_weighed.j0, if_neg (by decide)]
        rfl
theorem share_ok {N w S : Int} (n0 : 0 ≤ N) (n1 : N ≤ 1125899906842624) (w0 : 0 ≤ w) (hw : w ≤ S) (s0 : 0 < S) (s1 : S ≤ 274877906944) :
    Ev (fun k => num_share.f k N w S) (N * w / S, N * w % S) := by
  have m0 := Int.mul_nonneg n0 w0
  have m1 : N * w ≤ 1125899906842624 * S := Int.mul_le_mul n1 hw w0 (by omega)
  have m2 : N * w ≤ N * S := Int.mul_le_mul_of_nonneg_left hw n0
  unfold num_share.f
  simp only [uw_in (x := N) n0 (by omega), uw_in (x := w) w0 (by omega), uw_in (x := S) (by omega) (by omega), mul64_ok (x := N) (y := w) n0 (by omega) w0 (by omega), Option.bind_some]
  have E := div64_ok (hi := N * w / 18446744073709551616) (lo := N * w % 18446744073709551616) (y := S) (by omega) (by omega) (by omega) (by omega) (by omega)
  rw [show N * w / 18446744073709551616 * 18446744073709551616 + N * w % 18446744073709551616 = N * w by omega] at E
  refine Ev.bind E ?_
  have q0 : 0 ≤ N * w / S := Int.ediv_nonneg m0 (by omega)
  have q1 : N * w / S ≤ N := Int.ediv_le_of_le_mul s0 m2
  have r0 := Int.emod_nonneg (N * w) (show S ≠ 0 by omega)
  have r1 := Int.emod_lt_of_pos (N * w) s0
  simp only [wd64 (x := N * w / S) (by omega) (by omega), wd64 (x := N * w % S) (by omega) (by omega)]
  exact Ev.now _
theorem cmp64_ok (a b : Int) : cmp_Compare_uint64.f a b = some (if a < b then -1 else if b < a then 1 else 0) := by
  unfold cmp_Compare_uint64.f cmp_isNaN_uint64.f
  simp
  by_cases h : a < b
  · simp [h]
  · by_cases g : b < a
    · simp [h, g]
    · simp [h, g]
theorem or_ok (a b : Int) : Ev (fun k => cmp_Or_int.f k [a, b]) (if a = 0 then b else a) := by
  unfold cmp_Or_int.f
  by_cases h : a = 0
  · subst h
    refine Ev.step (f := fun k => cmp_Or_int.l0 k 0 [0, b] 2 1) (fun k => ?_) ?_
    · rw [cmp_Or_int.l0, if_pos (by simp), if_pos (by omega), if_pos (by simp), if_pos (by rfl), wd64 (x := 0 + 1) (by omega) (by omega)]
      rfl
    · by_cases g : b = 0
      · subst g
        refine Ev.step (f := fun k => cmp_Or_int.l0 k 0 [0, 0] 2 2) (fun k => ?_) ?_
        · rw [cmp_Or_int.l0, if_pos (by omega), if_pos (by omega), if_pos (by simp), if_pos (by rfl), wd64 (x := 1 + 1) (by omega) (by omega)]
          rfl
        · exact Ev.step (f := fun _ => some 0) (fun k => by rw [cmp_Or_int.l0, if_neg (by omega)]) (Ev.now _)
      · refine Ev.step (f := fun _ => some b) (fun k => ?_) (Ev.now _)
        have e : rd [0, b] 1 = b := rfl
        rw [cmp_Or_int.l0, if_pos (by omega), if_pos (by omega), if_pos (by simp), e, if_neg g]
  · rw [if_neg h]
    refine Ev.step (f := fun _ => some a) (fun k => ?_) (Ev.now _)
    have e : rd [a, b] 0 = a := rfl
    rw [cmp_Or_int.l0, if_pos (by simp), if_pos (by omega), if_pos (by simp), e, if_neg h]
def cmpQ (a v b w : Int) : Int := if a * w < b * v then -1 else if b * v < a * w then 1 else 0
theorem before_ok {a v b w : Int} (a0 : 0 ≤ a) (a1 : a < 18446744073709551616) (v0 : 0 ≤ v) (v1 : v < 18446744073709551616) (b0 : 0 ≤ b) (b1 : b < 18446744073709551616) (w0 : 0 ≤ w) (w1 : w < 18446744073709551616) :
    Ev (fun k => num_before.f k a v b w) (cmpQ a v b w) := by
  unfold num_before.f
  simp only [uw_in (x := a) a0 (by omega), uw_in (x := v) v0 (by omega), uw_in (x := b) b0 (by omega), uw_in (x := w) w0 (by omega), mul64_ok a0 a1 w0 w1, mul64_ok b0 b1 v0 v1, cmp64_ok, Option.bind_some]
  refine Ev.bind (or_ok _ _) ?_
  have : (if (if a * w / 18446744073709551616 < b * v / 18446744073709551616 then (-1 : Int) else if b * v / 18446744073709551616 < a * w / 18446744073709551616 then 1 else 0) = 0 then (if a * w % 18446744073709551616 < b * v % 18446744073709551616 then (-1 : Int) else if b * v % 18446744073709551616 < a * w % 18446744073709551616 then 1 else 0) else (if a * w / 18446744073709551616 < b * v / 18446744073709551616 then (-1 : Int) else if b * v / 18446744073709551616 < a * w / 18446744073709551616 then 1 else 0)) = cmpQ a v b w := by
    unfold cmpQ
    generalize a * w = x
    generalize b * v = y
    (repeat' split) <;> omega
  rw [this]
  exact Ev.now _
structure Fits (p w : List Int) : Prop where
  len : p.length = w.length
  few : w.length ≤ 256
  pp : ∀ i, i < p.length → 0 ≤ at_ p i ∧ at_ p i ≤ 1125899906842625
  ww : ∀ i, i < w.length → 0 ≤ at_ w i ∧ at_ w i ≤ 1073741824
theorem next_l0 {p w : List Int} (F : Fits p w) : ∀ (c i : Nat) (b : Int), w.length - i = c → i ≤ w.length → ((b = -1 ∧ ∀ j, j < i → at_ w j = 0) ∨ (∃ m : Nat, b = m ∧ Next i (at_ p) (at_ w) m)) →
    ∃ r, Ev (fun k => num_next.l0 k p w b w (w.length : Int) (i : Int)) r ∧ ((r = -1 ∧ ∀ j, j < w.length → at_ w j = 0) ∨ (∃ m : Nat, r = m ∧ Next w.length (at_ p) (at_ w) m)) := by
  obtain ⟨len, few, pp, ww⟩ := F
  intro c
  induction c with
  | zero =>
    intro i b hc hi hb
    obtain rfl : i = w.length := by omega
    exact ⟨b, Ev.step (f := fun _ => some b) (fun k => by rw [num_next.l0, if_neg (by omega)]) (Ev.now _), hb⟩
  | succ c ih =>
    intro i b hc hi hb
    obtain ⟨wi0, wi1⟩ := ww i (by omega)
    obtain ⟨pi0, pi1⟩ := pp i (by omega)
    by_cases h0 : at_ w i > 0
    · rcases hb with ⟨rfl, hz⟩ | ⟨m, rfl, hm, wm, ah⟩
      · obtain ⟨r, E, h⟩ := ih (i + 1) (i : Int) (by omega) (by omega) (Or.inr ⟨i, rfl, by omega, h0, fun j hj h1 h2 => by
          have := hz j (by omega)
          omega⟩)
        refine ⟨r, Ev.step (f := fun k => num_next.l0 k p w (i : Int) w (w.length : Int) ((i + 1 : Nat) : Int)) (fun k => ?_) E, h⟩
        clear h
        rw [num_next.l0, if_pos (by omega), if_pos (by omega), if_pos (by omega), rd_nat, if_pos h0, if_pos (by omega), wd64 (x := (i : Int) + 1) (by omega) (by omega)]
        rfl
      · obtain ⟨pm0, pm1⟩ := pp m (by omega)
        obtain ⟨wm0, wm1⟩ := ww m (by omega)
        have B := before_ok (a := 2 * at_ p i + 1) (v := at_ w i) (b := 2 * at_ p m + 1) (w := at_ w m) (by omega) (by omega) wi0 (by omega) (by omega) (by omega) wm0 (by omega)
        by_cases hlt : (2 * at_ p i + 1) * at_ w m < (2 * at_ p m + 1) * at_ w i
        · have cv : cmpQ (2 * at_ p i + 1) (at_ w i) (2 * at_ p m + 1) (at_ w m) = -1 := by unfold cmpQ; rw [if_pos hlt]
          obtain ⟨r, E, h⟩ := ih (i + 1) (i : Int) (by omega) (by omega) (Or.inr ⟨i, rfl, by omega, h0, fun j hj h1 h2 => by
            have im : Ahead (2 * at_ p i + 1) (at_ w i) i (2 * at_ p m + 1) (at_ w m) m := Or.inl hlt
            by_cases hjm : j = m
            · subst hjm; exact im
            · exact im.trans (ah j (by omega) h1 hjm) h0 wm h1⟩)
          refine ⟨r, Ev.step (f := fun k => (num_before.f k (2 * at_ p i + 1) (at_ w i) (2 * at_ p m + 1) (at_ w m)).bind fun t766 => if t766 < 0 then num_next.l0 k p w (i : Int) w (w.length : Int) ((i + 1 : Nat) : Int) else num_next.l0 k p w (m : Int) w (w.length : Int) ((i + 1 : Nat) : Int)) (fun k => ?_) (Ev.bind B ?_), h⟩
          · clear h
            rw [num_next.l0, if_pos (by omega), if_pos (by omega), if_pos (by omega), rd_nat, if_pos h0, if_neg (by omega), if_pos (by omega), if_pos (by omega), if_pos (by omega), if_pos (by omega), rd_nat, rd_nat, rd_nat, wd64 (x := (i : Int) + 1) (by omega) (by omega), wd64 (x := 2 * at_ p i) (by omega) (by omega), wd64 (x := 2 * at_ p m) (by omega) (by omega), wd64 (x := 2 * at_ p i + 1) (by omega) (by omega), wd64 (x := 2 * at_ p m + 1) (by omega) (by omega)]
            rfl
          · rw [cv]
            simp only [if_pos (show (-1 : Int) < 0 by omega)]
            exact E
        · have cv : ¬ cmpQ (2 * at_ p i + 1) (at_ w i) (2 * at_ p m + 1) (at_ w m) < 0 := by unfold cmpQ; rw [if_neg hlt]; split <;> omega
          obtain ⟨r, E, h⟩ := ih (i + 1) (m : Int) (by omega) (by omega) (Or.inr ⟨m, rfl, by omega, wm, fun j hj h1 h2 => by
            rcases Nat.lt_or_ge j i with hji | hji
            · exact ah j hji h1 h2
            · obtain rfl : j = i := by omega
              rcases Int.lt_or_eq_of_le (Int.not_lt.1 hlt) with g | g
              · exact Or.inl g
              · exact Or.inr ⟨g, hm⟩⟩)
          refine ⟨r, Ev.step (f := fun k => (num_before.f k (2 * at_ p i + 1) (at_ w i) (2 * at_ p m + 1) (at_ w m)).bind fun t766 => if t766 < 0 then num_next.l0 k p w (i : Int) w (w.length : Int) ((i + 1 : Nat) : Int) else num_next.l0 k p w (m : Int) w (w.length : Int) ((i + 1 : Nat) : Int)) (fun k => ?_) (Ev.bind B ?_), h⟩
          · clear h
            rw [num_next.l0, if_pos (by omega), if_pos (by omega), if_pos (by omega), rd_nat, if_pos h0, if_neg (by omega), if_pos (by omega), if_pos (by omega), if_pos (by omega), if_pos (by omega), rd_nat, rd_nat, rd_nat, wd64 (x := (i : Int) + 1) (by omega) (by omega), wd64 (x := 2 * at_ p i) (by omega) (by omega), wd64 (x := 2 * at_ p m) (by omega) (by omega), wd64 (x := 2 * at_ p i + 1) (by omega) (by omega), wd64 (x := 2 * at_ p m + 1) (by omega) (by omega)]
            rfl
          · simp only [if_neg cv]
            exact E
    · have z : at_ w i = 0 := by omega
      obtain ⟨r, E, h⟩ := ih (i + 1) b (by clear hb; omega) (by clear hb; omega) (by
        rcases hb with ⟨e, hz⟩ | ⟨m, e, hm, wm, ah⟩
        · refine Or.inl ⟨e, fun j hj => ?_⟩
          rcases Nat.lt_or_ge j i with hji | hji
          · exact hz j hji
          · obtain rfl : j = i := by omega
            exact z
        · refine Or.inr ⟨m, e, by omega, wm, fun j hj h1 h2 => ?_⟩
          rcases Nat.lt_or_ge j i with hji | hji
          · exact ah j hji h1 h2
          · obtain rfl : j = i := by omega
            omega)
      refine ⟨r, Ev.step (f := fun k => num_next.l0 k p w b w (w.length : Int) ((i + 1 : Nat) : Int)) (fun k => ?_) E, h⟩
      clear h hb
      rw [num_next.l0, if_pos (by omega), if_pos (by omega), if_pos (by omega), rd_nat, if_neg h0, wd64 (x := (i : Int) + 1) (by omega) (by omega)]
      rfl
theorem next_ok {p w : List Int} (F : Fits p w) : ∃ r, Ev (fun k => num_next.f k p w) r ∧ ((r = -1 ∧ ∀ j, j < w.length → at_ w j = 0) ∨ (∃ m : Nat, r = m ∧ Next w.length (at_ p) (at_ w) m)) := by
  unfold num_next.f
  exact next_l0 F w.length 0 (-1) rfl (by omega) (Or.inl ⟨rfl, fun j hj => by omega⟩)
theorem latest_l0 {p w : List Int} (F : Fits p w) : ∀ (c i : Nat) (b : Int), w.length - i = c → i ≤ w.length → ((b = -1 ∧ ∀ j, j < i → at_ w j = 0 ∨ at_ p j = 0) ∨ (∃ m : Nat, b = m ∧ Latest i (at_ p) (at_ w) m)) →
    ∃ r, Ev (fun k => num_latest.l0 k p w b w (w.length : Int) (i : Int)) r ∧ ((r = -1 ∧ ∀ j, j < w.length → at_ w j = 0 ∨ at_ p j = 0) ∨ (∃ m : Nat, r = m ∧ Latest w.length (at_ p) (at_ w) m)) := by
  obtain ⟨len, few, pp, ww⟩ := F
  intro c
  induction c with
  | zero =>
    intro i b hc hi hb
    obtain rfl : i = w.length := by omega
    exact ⟨b, Ev.step (f := fun _ => some b) (fun k => by rw [num_latest.l0, if_neg (by omega)]) (Ev.now _), hb⟩
  | succ c ih =>
    intro i b hc hi hb
    obtain ⟨wi0, wi1⟩ := ww i (by omega)
    obtain ⟨pi0, pi1⟩ := pp i (by omega)
    by_cases h0 : at_ w i > 0 ∧ at_ p i > 0
    · obtain ⟨h0, hp0⟩ := h0
      rcases hb with ⟨rfl, hz⟩ | ⟨m, rfl, hm, wm, pm, ah⟩
      · obtain ⟨r, E, h⟩ := ih (i + 1) (i : Int) (by omega) (by omega) (Or.inr ⟨i, rfl, by omega, h0, hp0, fun j hj h1 h2 h3 => by
          have := hz j (by omega)
          omega⟩)
        refine ⟨r, Ev.step (f := fun k => num_latest.l0 k p w (i : Int) w (w.length : Int) ((i + 1 : Nat) : Int)) (fun k => ?_) E, h⟩
        clear h
        rw [num_latest.l0, if_pos (by omega), if_pos (by omega), if_pos (by omega), rd_nat, if_pos h0, if_pos (by omega), rd_nat, if_pos hp0, if_pos (by omega), wd64 (x := (i : Int) + 1) (by omega) (by omega)]
        rfl
      · obtain ⟨pm0, pm1⟩ := pp m (by omega)
        obtain ⟨wm0, wm1⟩ := ww m (by omega)
        have B := before_ok (a := 2 * at_ p i - 1) (v := at_ w i) (b := 2 * at_ p m - 1) (w := at_ w m) (by omega) (by omega) wi0 (by omega) (by omega) (by omega) wm0 (by omega)
        by_cases hlt : (2 * at_ p i - 1) * at_ w m < (2 * at_ p m - 1) * at_ w i
        · have cv : cmpQ (2 * at_ p i - 1) (at_ w i) (2 * at_ p m - 1) (at_ w m) = -1 := by unfold cmpQ; rw [if_pos hlt]
          obtain ⟨r, E, h⟩ := ih (i + 1) (m : Int) (by omega) (by omega) (Or.inr ⟨m, rfl, by omega, wm, pm, fun j hj h1 h2 h3 => by
            rcases Nat.lt_or_ge j i with hji | hji
            · exact ah j hji h1 h2 h3
            · obtain rfl : j = i := by omega
              exact Or.inl hlt⟩)
          refine ⟨r, Ev.step (f := fun k => (num_before.f k (2 * at_ p i - 1) (at_ w i) (2 * at_ p m - 1) (at_ w m)).bind fun t772 => if t772 ≥ 0 then num_latest.l0 k p w (i : Int) w (w.length : Int) ((i + 1 : Nat) : Int) else num_latest.l0 k p w (m : Int) w (w.length : Int) ((i + 1 : Nat) : Int)) (fun k => ?_) (Ev.bind B ?_), h⟩
          · clear h
            rw [num_latest.l0, if_pos (by omega), if_pos (by omega), if_pos (by omega), rd_nat, if_pos h0, if_pos (by omega), rd_nat, if_pos hp0, if_neg (by omega), if_pos (by omega), if_pos (by omega), if_pos (by omega), rd_nat, rd_nat, wd64 (x := (i : Int) + 1) (by omega) (by omega), wd64 (x := 2 * at_ p i) (by omega) (by omega), wd64 (x := 2 * at_ p m) (by omega) (by omega), wd64 (x := 2 * at_ p i - 1) (by omega) (by omega), wd64 (x := 2 * at_ p m - 1) (by omega) (by omega)]
            rfl
          · rw [cv]
            simp only [if_neg (show ¬ (-1 : Int) ≥ 0 by omega)]
            exact E
        · have cv : cmpQ (2 * at_ p i - 1) (at_ w i) (2 * at_ p m - 1) (at_ w m) ≥ 0 := by unfold cmpQ; rw [if_neg hlt]; split <;> omega
          obtain ⟨r, E, h⟩ := ih (i + 1) (i : Int) (by omega) (by omega) (Or.inr ⟨i, rfl, by omega, h0, hp0, fun j hj h1 h2 h3 => by
            have im : Ahead (2 * at_ p m - 1) (at_ w m) m (2 * at_ p i - 1) (at_ w i) i := by
              rcases Int.lt_or_eq_of_le (Int.not_lt.1 hlt) with g | g
              · exact Or.inl g
              · exact Or.inr ⟨g, hm⟩
            by_cases hjm : j = m
            · subst hjm; exact im
            · exact (ah j (by omega) h1 h2 hjm).trans im h1 wm h0⟩)
          refine ⟨r, Ev.step (f := fun k => (num_before.f k (2 * at_ p i - 1) (at_ w i) (2 * at_ p m - 1) (at_ w m)).bind fun t772 => if t772 ≥ 0 then num_latest.l0 k p w (i : Int) w (w.length : Int) ((i + 1 : Nat) : Int) else num_latest.l0 k p w (m : Int) w (w.length : Int) ((i + 1 : Nat) : Int)) (fun k => ?_) (Ev.bind B ?_), h⟩
          · clear h
            rw [num_latest.l0, if_pos (by omega), if_pos (by omega), if_pos (by omega), rd_nat, if_pos h0, if_pos (by omega), rd_nat, if_pos hp0, if_neg (by omega), if_pos (by omega), if_pos (by omega), if_pos (by omega), rd_nat, rd_nat, wd64 (x := (i : Int) + 1) (by omega) (by omega), wd64 (x := 2 * at_ p i) (by omega) (by omega), wd64 (x := 2 * at_ p m) (by omega) (by omega), wd64 (x := 2 * at_ p i - 1) (by omega) (by omega), wd64 (x := 2 * at_ p m - 1) (by omega) (by omega)]
            rfl
          · simp only [if_pos cv]
            exact E
    · have z : at_ w i = 0 ∨ at_ p i = 0 := by omega
      obtain ⟨r, E, h⟩ := ih (i + 1) b (by clear hb; omega) (by clear hb; omega) (by
        rcases hb with ⟨e, hz⟩ | ⟨m, e, hm, wm, pm, ah⟩
        · refine Or.inl ⟨e, fun j hj => ?_⟩
          rcases Nat.lt_or_ge j i with hji | hji
          · exact hz j hji
          · obtain rfl : j = i := by omega
            exact z
        · refine Or.inr ⟨m, e, by omega, wm, pm, fun j hj h1 h2 h3 => ?_⟩
          rcases Nat.lt_or_ge j i with hji | hji
          · exact ah j hji h1 h2 h3
          · obtain rfl : j = i := by omega
            omega)
      refine ⟨r, Ev.step (f := fun k => num_latest.l0 k p w b w (w.length : Int) ((i + 1 : Nat) : Int)) (fun k => ?_) E, h⟩
      clear h hb
      rw [num_latest.l0, if_pos (by omega), if_pos (by omega), if_pos (by omega), rd_nat, wd64 (x := (i : Int) + 1) (by omega) (by omega)]
      by_cases hw : at_ w i > 0
      · rw [if_pos hw, if_pos (by omega), rd_nat, if_neg (by omega)]; rfl
      · rw [if_neg hw]; rfl
theorem latest_ok {p w : List Int} (F : Fits p w) : ∃ r, Ev (fun k => num_latest.f k p w) r ∧ ((r = -1 ∧ ∀ j, j < w.length → at_ w j = 0 ∨ at_ p j = 0) ∨ (∃ m : Nat, r = m ∧ Latest w.length (at_ p) (at_ w) m)) := by
  unfold num_latest.f
  exact latest_l0 F w.length 0 (-1) rfl (by omega) (Or.inl ⟨rfl, fun j hj => by omega⟩)
theorem at_set_self {l : List Int} {i : Nat} {v : Int} (h : i < l.length) : at_ (l.set i v) i = v := by
  unfold at_
  rw [List.getD_eq_getElem?_getD, List.getElem?_set_self h]
  rfl
theorem at_bump {l : List Int} {b : Nat} (h : b < l.length) (d : Int) : at_ (l.set b (at_ l b + d)) = bump (at_ l) b d := by
  funext i
  unfold bump
  by_cases e : i = b
  · subst e; rw [if_pos rfl, at_set_self h]
  · rw [if_neg e, at_set_ne (Ne.symm e)]
def Divided (N : Int) (l : List Int) (v : List Int × Int) : Prop :=
  ((weigh N l).2 ≠ 0 ∧ v = ([], (weigh N l).2)) ∨
  ((weigh N l).2 = 0 ∧ v.2 = 0 ∧ v.1.length = l.length ∧ Stable l.length (at_ v.1) (at_ l) ∧ sumTo (at_ v.1) l.length = N)
theorem weigh_ok {N : Int} {l : List Int} (h : (weigh N l).2 = 0) : l.length ≤ 256 ∧ 0 ≤ N ∧ N ≤ 1125899906842624 ∧ (∀ i, i < l.length → 0 ≤ at_ l i ∧ at_ l i ≤ 1073741824) ∧ (weigh N l).1 = sumTo (at_ l) l.length ∧ (sumTo (at_ l) l.length = 0 → N = 0) := by
  unfold weigh at h ⊢
  by_cases c1 : 256 < l.length
  · rw [if_pos c1] at h; simp at h
  · rw [if_neg c1] at h ⊢
    by_cases c2 : N < 0 ∨ 1125899906842624 < N
    · rw [if_pos c2] at h; simp at h
    · rw [if_neg c2] at h ⊢
      by_cases c3 : ∀ x ∈ l, 0 ≤ x ∧ x ≤ 1073741824
      · rw [if_pos c3] at h ⊢
        by_cases c4 : sumTo (at_ l) l.length = 0 ∧ N ≠ 0
        · rw [if_pos c4] at h; simp at h
        · rw [if_neg c4] at h ⊢
          refine ⟨by omega, by omega, by omega, fun i hi => c3 _ (at_mem hi), rfl, fun e => ?_⟩
          rcases Classical.em (N = 0) with d | d
          · exact d
          · exact (c4 ⟨e, d⟩).elim
      · rw [if_neg c3] at h; simp at h
theorem sum_le {p : Nat → Int} {n : Nat} (h : ∀ i, i < n → 0 ≤ p i) {N : Int} (s : sumTo p n ≤ N) : ∀ i, i < n → p i ≤ N := fun i hi => by
  have := le_sumTo h i hi
  omega
theorem divide_l2 {N : Int} {w : List Int} (n0 : 0 ≤ N) (few : w.length ≤ 256) (ww : ∀ i, i < w.length → 0 ≤ at_ w i ∧ at_ w i ≤ 1073741824) : ∀ (c : Nat) (p : List Int), sumTo (at_ p) w.length - N = c → p.length = w.length → (∀ i, i < p.length → at_ p i ≤ 1125899906842625) → Stable w.length (at_ p) (at_ w) →
    ∃ v : List Int, Ev (fun k => num_Divide.l2 k N w p (sumTo (at_ p) w.length)) (v, 0) ∧ v.length = w.length ∧ Stable w.length (at_ v) (at_ w) ∧ sumTo (at_ v) w.length = N := by
  intro c
  induction c with
  | zero =>
    intro p hc hl hp St
    refine ⟨p, Ev.step (f := fun _ => some (p, 0)) (fun k => by rw [num_Divide.l2, if_neg (by omega)]) (Ev.now _), hl, St, by omega⟩
  | succ c ih =>
    intro p hc hl hp St
    obtain ⟨r, E, hr⟩ := latest_ok ⟨hl, few, fun i hi => ⟨St.nn i (by omega), hp i hi⟩, ww⟩
    rcases hr with ⟨rfl, hz⟩ | ⟨m, rfl, B⟩
    · exfalso
      obtain ⟨i, hi, pi⟩ := sumTo_pos St.nn (show 0 < sumTo (at_ p) w.length by omega)
      have := St.pos hi pi
      have := hz i hi
      omega
    · have hm : m < p.length := by have := B.1; omega
      have St2 := St.down B
      have e := at_bump hm (-1)
      have pm := B.2.2.1
      have pm1 := hp m hm
      have s2 := sumTo_bump (at_ p) m (-1) w.length B.1
      have sb := sumTo_max (p := at_ p) (c := 1125899906842625) (n := w.length) (fun i hi => hp i (by omega))
      obtain ⟨v, Ev2, h⟩ := ih (p.set m (at_ p m + -1)) (by rw [e, s2]; omega) (by simp; omega) (fun i hi => by
        rw [List.length_set] at hi
        have := hp i hi
        rw [e]; unfold bump; split <;> omega) (by rw [e]; exact St2)
      rw [e, s2] at Ev2
      refine ⟨v, ?_, h⟩
      refine Ev.step (f := fun k => (num_latest.f k p w).bind fun t887 => if 0 ≤ t887 then (if t887 < (p.length : Int) then num_Divide.l2 k N w (p.set (t887 : Int).toNat (wrap64 ((rd p t887) - 1))) (wrap64 (sumTo (at_ p) w.length - 1)) else none) else none) (fun k => by rw [num_Divide.l2, if_pos (by omega)]) (Ev.bind E ?_)
      simp only [if_pos (show 0 ≤ (m : Int) by omega), if_pos (show (m : Int) < (p.length : Int) by omega), rd_nat, Int.toNat_natCast, wd64 (x := at_ p m - 1) (by omega) (by omega), wd64 (x := sumTo (at_ p) w.length - 1) (by omega) (by omega)]
      exact Ev2
theorem divide_l1 {N : Int} {w : List Int} (n0 : 0 ≤ N) (n1 : N ≤ 1125899906842624) (few : w.length ≤ 256) (ww : ∀ i, i < w.length → 0 ≤ at_ w i ∧ at_ w i ≤ 1073741824) (hs : 0 < sumTo (at_ w) w.length) : ∀ (c : Nat) (p : List Int), (N - sumTo (at_ p) w.length).toNat = c → p.length = w.length → (∀ i, i < p.length → at_ p i ≤ 1125899906842625) → Stable w.length (at_ p) (at_ w) →
    ∃ v : List Int, Ev (fun k => num_Divide.l1 k N w p (sumTo (at_ p) w.length)) (v, 0) ∧ v.length = w.length ∧ Stable w.length (at_ v) (at_ w) ∧ sumTo (at_ v) w.length = N := by
  intro c
  induction c with
  | zero =>
    intro p hc hl hp St
    obtain ⟨v, E, h⟩ := divide_l2 n0 few ww (sumTo (at_ p) w.length - N).toNat p (by omega) hl hp St
    exact ⟨v, Ev.step (f := fun k => num_Divide.l2 k N w p (sumTo (at_ p) w.length)) (fun k => by rw [num_Divide.l1, if_neg (by omega)]) E, h⟩
  | succ c ih =>
    intro p hc hl hp St
    have nn := sumTo_nonneg St.nn
    obtain ⟨r, E, hr⟩ := next_ok ⟨hl, few, fun i hi => ⟨St.nn i (by omega), hp i hi⟩, ww⟩
    rcases hr with ⟨rfl, hz⟩ | ⟨m, rfl, B⟩
    · exfalso
      obtain ⟨i, hi, pi⟩ := sumTo_pos St.ww hs
      have := hz i hi
      omega
    · have hm : m < p.length := by have := B.1; omega
      have St2 := St.up B
      have e := at_bump hm 1
      have pm0 := St.nn m B.1
      have pm := le_sumTo St.nn m B.1
      have s2 := sumTo_bump (at_ p) m 1 w.length B.1
      obtain ⟨v, Ev2, h⟩ := ih (p.set m (at_ p m + 1)) (by rw [e, s2]; omega) (by simp; omega) (fun i hi => by
        rw [List.length_set] at hi
        have := hp i hi
        rw [e]; unfold bump; split
        · subst_vars; omega
        · exact this) (by rw [e]; exact St2)
      rw [e, s2] at Ev2
      refine ⟨v, ?_, h⟩
      refine Ev.step (f := fun k => (num_next.f k p w).bind fun t884 => if 0 ≤ t884 then (if t884 < (p.length : Int) then num_Divide.l1 k N w (p.set (t884 : Int).toNat (wrap64 ((rd p t884) + 1))) (wrap64 (sumTo (at_ p) w.length + 1)) else none) else none) (fun k => by rw [num_Divide.l1, if_pos (by omega)]) (Ev.bind E ?_)
      simp only [if_pos (show 0 ≤ (m : Int) by omega), if_pos (show (m : Int) < (p.length : Int) by omega), rd_nat, Int.toNat_natCast, wd64 (x := at_ p m + 1) (by omega) (by omega), wd64 (x := sumTo (at_ p) w.length + 1) (by omega) (by omega)]
      exact Ev2
def near (N w S : Int) : Int := if 2 * (N * w % S) ≥ S then N * w / S + 1 else N * w / S
theorem near_ok {N w S : Int} (n0 : 0 ≤ N) (w0 : 0 ≤ w) (hw : w ≤ S) (s0 : 0 < S) : 0 ≤ near N w S ∧ near N w S ≤ N + 1 ∧ (w = 0 → near N w S = 0) ∧ (2 * near N w S - 1) * S ≤ 2 * N * w ∧ 2 * N * w < (2 * near N w S + 1) * S := by
  have m0 := Int.mul_nonneg n0 w0
  have m2 : N * w ≤ N * S := Int.mul_le_mul_of_nonneg_left hw n0
  have q0 : 0 ≤ N * w / S := Int.ediv_nonneg m0 (by omega)
  have q1 : N * w / S ≤ N := Int.ediv_le_of_le_mul s0 m2
  have r0 := Int.emod_nonneg (N * w) (show S ≠ 0 by omega)
  have r1 := Int.emod_lt_of_pos (N * w) s0
  have e := Int.mul_ediv_add_emod (N * w) S
  have z : w = 0 → N * w / S = 0 ∧ N * w % S = 0 := fun h => by subst h; simp
  have e2 : 2 * N * w = 2 * (N * w) := by grind
  rw [e2]
  unfold near
  generalize N * w / S = q at *
  generalize N * w % S = r at *
  generalize N * w = x at *
  have e3 : S * q = q * S := Int.mul_comm _ _
  by_cases c : 2 * r ≥ S
  · rw [if_pos c]
    have e4 : (2 * (q + 1) - 1) * S = 2 * (q * S) + S := by grind
    have e5 : (2 * (q + 1) + 1) * S = 2 * (q * S) + 3 * S := by grind
    refine ⟨by omega, by omega, fun h => by have := z h; omega, by omega, by omega⟩
  · rw [if_neg c]
    have e4 : (2 * q - 1) * S = 2 * (q * S) - S := by grind
    have e5 : (2 * q + 1) * S = 2 * (q * S) + S := by grind
    refine ⟨by omega, by omega, fun h => by have := z h; omega, by omega, by omega⟩
theorem divide_l0 {N S : Int} {w : List Int} (n0 : 0 ≤ N) (n1 : N ≤ 1125899906842624) (few : w.length ≤ 256) (ww : ∀ i, i < w.length → 0 ≤ at_ w i ∧ at_ w i ≤ 1073741824) (hS : S = sumTo (at_ w) w.length) (hs : 0 < S) : ∀ (c i : Nat) (p : List Int), w.length - i = c → i ≤ w.length → p.length = w.length → (∀ j, j < i → at_ p j = near N (at_ w j) S) →
    ∃ v : List Int, Ev (fun k => num_Divide.l0 k N w S p (sumTo (at_ p) i) w (w.length : Int) (i : Int)) (v, 0) ∧ v.length = w.length ∧ Stable w.length (at_ v) (at_ w) ∧ sumTo (at_ v) w.length = N := by
  have sb := sumTo_max (p := at_ w) (c := 1073741824) (n := w.length) (fun i hi => (ww i hi).2)
  have nr : ∀ i, i < w.length → _ := fun i hi => near_ok (N := N) (w := at_ w i) (S := S) n0 (ww i hi).1 (by rw [hS]; exact le_sumTo (fun i hi => (ww i hi).1) i hi) hs
  intro c
  induction c with
  | zero =>
    intro i p hc hi hl hp
    obtain rfl : i = w.length := by omega
    have St : Stable w.length (at_ p) (at_ w) := by
      refine stable_of (S := S) (T := 2 * N) hs (fun i hi => ?_) (fun i hi => (ww i hi).1) (fun i hi h => ?_) (fun i hi => ?_) (fun i hi => ?_)
      · rw [hp i hi]; exact (nr i hi).1
      · rw [hp i hi]; exact (nr i hi).2.2.1 h
      · rw [hp i hi]; exact (nr i hi).2.2.2.1
      · rw [hp i hi]; exact (nr i hi).2.2.2.2
    obtain ⟨v, E, h⟩ := divide_l1 n0 n1 few ww (by omega) _ p rfl hl (fun i hi => by
      rw [hp i (by omega)]
      have := (nr i (by omega)).2.1
      omega) St
    exact ⟨v, Ev.step (f := fun k => num_Divide.l1 k N w p (sumTo (at_ p) w.length)) (fun k => by rw [num_Divide.l0, if_neg (by omega)]) E, h⟩
  | succ c ih =>
    intro i p hc hi hl hp
    have hw : at_ w i ≤ S := by rw [hS]; exact le_sumTo (fun i hi => (ww i hi).1) i (by omega)
    have E := share_ok (N := N) (w := at_ w i) (S := S) n0 n1 (ww i (by omega)).1 hw hs (by omega)
    have m0 := Int.mul_nonneg n0 (ww i (by omega)).1
    have q0 : 0 ≤ N * at_ w i / S := Int.ediv_nonneg m0 (by omega)
    have q1 : N * at_ w i / S ≤ N := Int.ediv_le_of_le_mul hs (Int.mul_le_mul_of_nonneg_left hw n0)
    have r0 := Int.emod_nonneg (N * at_ w i) (show S ≠ 0 by omega)
    have r1 := Int.emod_lt_of_pos (N * at_ w i) hs
    have sp0 := sumTo_nonneg (p := at_ p) (n := i) (fun j hj => by rw [hp j hj]; exact (nr j (by omega)).1)
    have sp := sumTo_max (p := at_ p) (c := 1125899906842625) (n := i) (fun j hj => by
      rw [hp j hj]
      have := (nr j (by omega)).2.1
      omega)
    have nb := nr i (by omega)
    obtain ⟨v, E2, h⟩ := ih (i + 1) (p.set i (near N (at_ w i) S)) (by omega) (by omega) (by simp; omega) (fun j hj => by
      by_cases e : j = i
      · subst e; exact at_set_self (by omega)
      · rw [at_set_ne (Ne.symm e)]; exact hp j (by omega))
    have e : sumTo (at_ (p.set i (near N (at_ w i) S))) (i + 1) = sumTo (at_ p) i + near N (at_ w i) S := by
      show sumTo (at_ (p.set i (near N (at_ w i) S))) i + at_ (p.set i (near N (at_ w i) S)) i = _
      rw [at_set_self (by omega), sumTo_congr (q := at_ p) (fun j hj => at_set_ne (by omega))]
    rw [e] at E2
    refine ⟨v, ?_, h⟩
    clear h ih
    refine Ev.step (f := fun k => (num_share.f k N (at_ w i) S).bind fun bt880 => (if (wrap64 (2 * bt880.2)) ≥ S then (if (i : Int) < (p.length : Int) then (num_Divide.l0 k N w S (p.set i (wrap64 (bt880.1 + 1))) (wrap64 ((sumTo (at_ p) i) + (wrap64 (bt880.1 + 1)))) w (w.length : Int) ((i + 1 : Nat) : Int)) else (none)) else (if (i : Int) < (p.length : Int) then (num_Divide.l0 k N w S (p.set i bt880.1) (wrap64 ((sumTo (at_ p) i) + bt880.1)) w (w.length : Int) ((i + 1 : Nat) : Int)) else (none)))) (fun k => ?_) (Ev.bind E ?_)
    · rw [num_Divide.l0, if_pos (by omega), if_pos (by omega), if_pos (by omega), rd_nat, wd64 (x := (i : Int) + 1) (by omega) (by omega), Int.toNat_natCast]
      rfl
    · simp only [wd64 (x := 2 * (N * at_ w i % S)) (by omega) (by omega), if_pos (show (i : Int) < (p.length : Int) by omega)]
      unfold near at E2 nb
      by_cases c2 : 2 * (N * at_ w i % S) ≥ S
      · rw [if_pos c2] at E2 nb
        simp only [if_pos c2, wd64 (x := N * at_ w i / S + 1) (by omega) (by omega), wd64 (x := sumTo (at_ p) i + (N * at_ w i / S + 1)) (by omega) (by omega)]
        exact E2
      · rw [if_neg c2] at E2 nb
        simp only [if_neg c2, wd64 (x := sumTo (at_ p) i + N * at_ w i / S) (by omega) (by omega)]
        exact E2
theorem at_replicate0 (n i : Nat) : at_ (List.replicate n 0) i = 0 := at_replicate n i
theorem divide_ok (N : Int) (l : List Int) : ∃ v, Ev (fun k => num_Divide.f k N l) v ∧ Divided N l v := by
  unfold num_Divide.f
  by_cases h : (weigh N l).2 = 0
  · obtain ⟨few, n0, n1, ww, hS, hz⟩ := weigh_ok h
    have rep : List.replicate ((l.length : Int) : Int).toNat 0 = List.replicate l.length (0 : Int) := by rw [Int.toNat_natCast]
    by_cases s0 : sumTo (at_ l) l.length = 0
    · refine ⟨(List.replicate l.length 0, 0), Ev.bind (weighed_ok N l) ?_, Or.inr ⟨h, rfl, by simp, ?_, ?_⟩⟩
      · simp only [if_pos h, if_pos (show 0 ≤ (l.length : Int) by omega), Int.toNat_natCast, if_pos (show l.length ≤ 35184372088832 by omega), Option.bind_some, hS, if_pos s0]
        exact Ev.now _
      · refine ⟨fun i hi => by rw [at_replicate0]; omega, fun i hi => (ww i hi).1, fun i hi _ => at_replicate0 _ _, fun i j hi hj h1 => ?_⟩
        rw [at_replicate0] at h1; omega
      · rw [hz s0]
        have a := sumTo_nonneg (p := at_ (List.replicate l.length 0)) (n := l.length) (fun i hi => by rw [at_replicate0]; omega)
        have b := sumTo_max (p := at_ (List.replicate l.length 0)) (c := 0) (n := l.length) (fun i hi => by rw [at_replicate0]; omega)
        show sumTo (at_ (List.replicate l.length 0)) l.length = 0
        omega
    · have sp := sumTo_nonneg (p := at_ l) (n := l.length) (fun i hi => (ww i hi).1)
      obtain ⟨v, E, h1, h2, h3⟩ := divide_l0 n0 n1 few ww rfl (by omega) l.length 0 (List.replicate l.length 0) rfl (by omega) (by simp) (fun j hj => by omega)
      refine ⟨(v, 0), Ev.bind (weighed_ok N l) ?_, Or.inr ⟨h, rfl, h1, h2, h3⟩⟩
      simp only [if_pos h, if_pos (show 0 ≤ (l.length : Int) by omega), Int.toNat_natCast, if_pos (show l.length ≤ 35184372088832 by omega), Option.bind_some, hS, if_neg s0]
      exact E
  · refine ⟨([], (weigh N l).2), Ev.bind (weighed_ok N l) ?_, Or.inl ⟨h, rfl⟩⟩
    simp only [if_neg h]
    exact Ev.now _
end Go.Proofs.Num

namespace Go.Proofs.YtdjnneflpkllmaaDoor.Q
open Go.RowKit Go.Proofs.YtdjnneflpkllmaaDoorW.PrintWords Go.Proofs.YtdjnneflpkllmaaDoorW.PrintLast Go.Proofs.YtdjnneflpkllmaaDoorW.PrintMore
attribute [local go_sem] max2_int min2_int max_two min_two max_three min_three max_four min_four
set_option linter.unusedVariables false
set_option linter.unusedSimpArgs false
mutual
def num_Fair.j0 : Nat → List Int → List Int → Bool → Option (Bool × Int)
 | 0, _, _, _ => none
 | k + 1, x0, x1, x19 => if x19 = true then (some (false, 3)) else (if (x0.length : Int) = (x1.length : Int) then (num_Fair.l0 k x0 x1 x0 (x0.length : Int) 0) else (some (false, 2)))
def num_Fair.l0 : Nat → List Int → List Int → List Int → Int → Int → Option (Bool × Int)
 | 0, _, _, _, _, _ => none
 | k + 1, x0, x1, x25, x26, x27 => if x27 < x26 then (if 0 ≤ x27 then (if x27 < (x25.length : Int) then (if (rd x25 x27) < 0 then (some (false, 2)) else (if (rd x25 x27) > 1125899906842624 then (some (false, 2)) else (if x27 < (x1.length : Int) then (if (rd x1 x27) < 0 then (some (false, 2)) else (if (rd x1 x27) > 1073741824 then (some (false, 2)) else (num_Fair.l0 k x0 x1 x25 x26 (wrap64 (x27 + 1))))) else (none)))) else (none)) else (none)) else ((num_next.f k x0 x1).bind fun t776 => ((num_latest.f k x0 x1).bind fun t777 => (num_Fair.l1 k x0 x1 t776 t777 x0 (x0.length : Int) 0)))
def num_Fair.l1 : Nat → List Int → List Int → Int → Int → List Int → Int → Int → Option (Bool × Int)
 | 0, _, _, _, _, _, _, _ => none
 | k + 1, x0, x1, x8, x9, x59, x60, x61 => if x61 < x60 then (if 0 ≤ x61 then (if x61 < (x59.length : Int) then (if x61 < (x1.length : Int) then (if (rd x1 x61) = 0 then (if (rd x59 x61) = 0 then (num_Fair.l1 k x0 x1 x8 x9 x59 x60 (wrap64 (x61 + 1))) else (some (false, 0))) else (num_Fair.l1 k x0 x1 x8 x9 x59 x60 (wrap64 (x61 + 1)))) else (none)) else (none)) else (none)) else (if x8 < 0 then (some (true, 0)) else (if x9 < 0 then (some (true, 0)) else (if 0 ≤ x9 then (if x9 < (x0.length : Int) then (if x9 < (x1.length : Int) then (if 0 ≤ x8 then (if x8 < (x0.length : Int) then (if x8 < (x1.length : Int) then ((num_before.f k (wrap64 ((wrap64 (2 * (rd x0 x9))) - 1)) (rd x1 x9) (wrap64 ((wrap64 (2 * (rd x0 x8))) + 1)) (rd x1 x8)).bind fun t784 => (some (decide (t784 ≤ 0), 0))) else (none)) else (none)) else (none)) else (none)) else (none)) else (none))))
end
def num_Fair.f (k : Nat) (l0 : List Int) (l1 : List Int) : Option (Bool × Int) := if (l0.length : Int) > 256 then (num_Fair.j0 k l0 l1 true) else (num_Fair.j0 k l0 l1 (decide ((l1.length : Int) > 256)))
def num_Fair.T20 : Bool × List (List Nat × List Nat) := (true, [([], []), ([], []), ([0, 1], [0, 1]), ([2], [2]), ([3], [3]), ([4], [4]), ([], []), ([], []), ([6, 7], [6, 7]), ([8], [8]), ([], []), ([], []), ([10, 11], [10, 11]), ([12], [12]), ([13], [13]), ([14], [14]), ([], []), ([], []), ([16, 17], [16, 17]), ([18], [18]), ([5, 9, 15, 19], [5, 9, 15, 19]), ([20], [20]), ([21, 20, 0, 1, 2, 3, 4, 5, 6, 7, 8, 9, 10, 11, 12, 13, 14, 15, 16, 17, 18, 19, 20, 21], [21]), ([22, 0, 1, 2, 3, 4, 5, 6, 7, 8, 9, 10, 11, 12, 13, 14, 15, 16, 17, 18, 19, 20, 21, 22], [])])
def num_Fair.B20 : List Nat := [0, 0, 3, 7, 15, 31, 0, 0, 192, 448, 0, 0, 3072, 7168, 15360, 31744, 0, 0, 196608, 458752, 1048575, 2097151, 4194303, 8388607]
theorem num_Fair.tab20 : rtab .any (opsOf Tryd.f45 20) = num_Fair.T20 := by kernel_rfl
theorem num_Fair.bits20 : waitsOk num_Fair.T20.2 num_Fair.B20 = true := by kernel_rfl
set_option maxHeartbeats 8000000 in
set_option maxRecDepth 100000 in
theorem num_Fair.calls (k : Nat) (A0 : Option Addr) (c0 : Nat) (l0 : List Int) (A1 : Option Addr) (c1 : Nat) (l1 : List Int) (r1 : Bool) (r2 : Int) (w : World) (hr0 : Kd.C (Kd.int .i64) w A0 l0.length l0) (hc0 : l0.length ≤ c0) (hr1 : Kd.C (Kd.int .i64) w A1 l1.length l1) (hc1 : l1.length ≤ c1) (h : num_Fair.f k l0 l1 = some (r1, r2)) :
  Calls Tryd.prog 45 #[.slice A0 l0.length c0, .slice A1 l1.length c1] w fun e w' => e = .returned (.tuple #[.bool r1, .int .i64 r2]) ∧ Below w.heap.size w w' := by
 have HR0 := Aside0.mk hr0
 have HC0 := Aside0.mk hc0
 clear hr0 hc0
 have HR1 := Aside0.mk hr1
 have HC1 := Aside0.mk hc1
 clear hr1 hc1
 have HB := Aside0.mk (Below.refl w.heap.size w)
 have H : (if (l0.length : Int) > 256 then (num_Fair.j0 k l0 l1 true) else (num_Fair.j0 k l0 l1 (decide ((l1.length : Int) > 256)))) = some (r1, r2) := h
 clear h
 have HC3 := Aside0.mk H
 clear H
 go_enter Tryd.func45, Tryd.ntmps45
 go_upto_region 1 with (fail)
 go_cut [19] (fun v19 wc => ∃ (kq : Nat) (x19_2 : Bool), v19 = .bool x19_2 ∧ Aside0 (num_Fair.j0 kq l0 l1 x19_2 = some (r1, r2)) ∧ Aside0 (kq ≤ k) ∧ Aside0 (Below w.heap.size w wc))
 case first =>
  have H := HC3.out
  clear HC3
  by_cases c4 : (l0.length : Int) > 256
  ·rw [if_pos c4] at H
   have c4b0 : decide (256 < (l0.length : Int)) = true := decide_eq_true c4
   have c4b1 : decide (256 < l0.length) = true := decide_eq_true (by omega)
   clear c4
   (first | rw [c4b0] | (simp only [i64_w, i32_w]; rw [c4b0]) | skip)
   have H' := Aside0.mk H
   clear H
   go_wp2
   go_meet
   case rel => exact ⟨_, (true), (by first | rfl | (simp; done) | (simp [*]; done)), H', ⟨by first | omega | exact Nat.le_refl _⟩, ⟨(q0_ HB.out)⟩⟩
  ·rw [if_neg c4] at H
   have c4b0 : decide (256 < (l0.length : Int)) = false := decide_eq_false c4
   have c4b1 : decide (256 < l0.length) = false := decide_eq_false (by omega)
   clear c4
   (first | rw [c4b0] | (simp only [i64_w, i32_w]; rw [c4b0]) | skip)
   have H' := Aside0.mk H
   clear H
   go_wp2
   go_meet
   case rel => exact ⟨_, (decide ((l1.length : Int) > 256)), (by first | rfl | (simp; done) | (simp [*]; done)), H', ⟨by first | omega | exact Nat.le_refl _⟩, ⟨(q0_ HB.out)⟩⟩
 case rest =>
  clear HC3
  try clear c1
  try clear p2
  try clear c4
  try clear c4b0
  try clear c4b1
  obtain ⟨kq, x19_2, rfl, HA, HJ2, HB⟩ := hcut
  cases kq with
  | zero => exact absurd HA.out (by simp [num_Fair.j0])
  | succ kj2 =>
   have H := HA.out
   clear HA
   simp only [num_Fair.j0] at H
   by_cases c5 : x19_2 = true
   ·subst c5
    have H1 : (some (false, 3)) = some (r1, r2) := by rw [if_pos rfl] at H; exact H
    clear H
    have H := H1
    clear H1
    simp only [Option.some.injEq, Prod.mk.injEq] at H
    obtain ⟨rfl, rfl⟩ := H
    go_wp2
    go_ret2
    exact ⟨by first | rfl | (simp [errW_none, errW_some] <;> rfl) | (simp [*, errW_none, errW_some] <;> rfl), (q0_ HB.out)⟩
   ·replace c5 := Bool.eq_false_iff.mpr c5
    subst c5
    have H1 : (if (l0.length : Int) = (l1.length : Int) then (num_Fair.l0 kj2 l0 l1 l0 (l0.length : Int) 0) else (some (false, 2))) = some (r1, r2) := by rw [if_neg (show ¬ (false = true) by decide)] at H; exact H
    clear H
    have H := H1
    clear H1
    by_cases c6 : (l0.length : Int) = (l1.length : Int)
    ·rw [if_pos c6] at H
     have c6b0 : ((l0.length : Int) == (l1.length : Int)) = true := beq_iff_eq.mpr c6
     have c6b1 : ((l0.length : Int) != (l1.length : Int)) = false := bne_eq_false_iff_eq.mpr c6
     have c6b2 : (l0.length == l1.length) = true := by first | simpa using c6 | (simp at c6 ⊢; omega)
     clear c6
     have H' := Aside0.mk H
     clear H
     go_wp2
     go_loopg [27] kj2 (fun kq v27 w' => ∃ (x27_2 : Int), v27 = .int .i64 x27_2 ∧ Aside0 (num_Fair.l0 kq l0 l1 l0 (l0.length : Int) x27_2 = some (r1, r2)) ∧ Aside0 (kq ≤ kj2) ∧ Aside0 (Below w.heap.size w w'))
     case atStart => exact ⟨(0), (by first | rfl | (simp; done) | (simp [*]; done)), H', ⟨Nat.le_refl _⟩, ⟨(q0_ HB.out)⟩⟩
     case round =>
      clear H'
      try clear c1
      try clear p2
      try clear c4
      try clear c4b0
      try clear c4b1
      try clear c5
      try clear c6
      try clear c6b0
      try clear c6b1
      try clear c6b2
      try clear p2
      obtain ⟨x27_2, rfl, HA, HK2, HB⟩ := hrel
      cases gk with
      | zero => exact absurd HA.out (by simp [num_Fair.l0])
      | succ k2 =>
       have H := HA.out
       clear HA
       simp only [num_Fair.l0] at H
       by_cases c7 : x27_2 < (l0.length : Int)
       ·rw [if_pos c7] at H
        have c7b0 : decide (x27_2 < (l0.length : Int)) = true := decide_eq_true c7
        clear c7
        by_cases c8 : 0 ≤ x27_2
        ·rw [if_pos c8] at H
         have c8b0 : decide (0 ≤ x27_2) = true := decide_eq_true c8
         clear c8
         by_cases c9 : x27_2 < (l0.length : Int)
         ·rw [if_pos c9] at H
          have c9b0 : decide (x27_2 < (l0.length : Int)) = true := decide_eq_true c9
          clear c9
          by_cases c10 : (rd l0 x27_2) < 0
          ·rw [if_pos c10] at H
           have c10b0 : decide ((rd l0 x27_2) < 0) = true := decide_eq_true c10
           clear c10
           simp only [Option.some.injEq, Prod.mk.injEq] at H
           obtain ⟨rfl, rfl⟩ := H
           have p773 : 0 ≤ (x27_2 : Int) := od_
           have q773 : x27_2 < (l0.length : Int) := od_
           obtain ⟨ad773, e773, hx773_0⟩ := Kd.at_int HR0.out x27_2 p773 q773
           cases e773
           replace hx773_0 := (HB.out.cell (World.block_lt_of_cell? w _ hx773_0)).trans hx773_0
           replace p773 := eq_true p773
           replace q773 := eq_true q773
           go_wp2
           go_ret2
           exact ⟨by first | rfl | (simp [errW_none, errW_some] <;> rfl) | (simp [*, errW_none, errW_some] <;> rfl), (q0_ HB.out)⟩
          ·rw [if_neg c10] at H
           have c10b0 : decide ((rd l0 x27_2) < 0) = false := decide_eq_false c10
           clear c10
           by_cases c11 : (rd l0 x27_2) > 1125899906842624
           ·rw [if_pos c11] at H
            have c11b0 : decide (1125899906842624 < (rd l0 x27_2)) = true := decide_eq_true c11
            clear c11
            simp only [Option.some.injEq, Prod.mk.injEq] at H
            obtain ⟨rfl, rfl⟩ := H
            have p773 : 0 ≤ (x27_2 : Int) := od_
            have q773 : x27_2 < (l0.length : Int) := od_
            obtain ⟨ad773, e773, hx773_0⟩ := Kd.at_int HR0.out x27_2 p773 q773
            cases e773
            replace hx773_0 := (HB.out.cell (World.block_lt_of_cell? w _ hx773_0)).trans hx773_0
            replace p773 := eq_true p773
            replace q773 := eq_true q773
            go_wp2
            go_ret2
            exact ⟨by first | rfl | (simp [errW_none, errW_some] <;> rfl) | (simp [*, errW_none, errW_some] <;> rfl), (q0_ HB.out)⟩
           ·rw [if_neg c11] at H
            have c11b0 : decide (1125899906842624 < (rd l0 x27_2)) = false := decide_eq_false c11
            clear c11
            by_cases c12 : x27_2 < (l1.length : Int)
            ·rw [if_pos c12] at H
             have c12b0 : decide (x27_2 < (l1.length : Int)) = true := decide_eq_true c12
             clear c12
             by_cases c13 : (rd l1 x27_2) < 0
             ·rw [if_pos c13] at H
              have c13b0 : decide ((rd l1 x27_2) < 0) = true := decide_eq_true c13
              clear c13
              simp only [Option.some.injEq, Prod.mk.injEq] at H
              obtain ⟨rfl, rfl⟩ := H
              have p773 : 0 ≤ (x27_2 : Int) := od_
              have q773 : x27_2 < (l0.length : Int) := od_
              obtain ⟨ad773, e773, hx773_0⟩ := Kd.at_int HR0.out x27_2 p773 q773
              cases e773
              replace hx773_0 := (HB.out.cell (World.block_lt_of_cell? w _ hx773_0)).trans hx773_0
              replace p773 := eq_true p773
              replace q773 := eq_true q773
              have p774 : 0 ≤ (x27_2 : Int) := od_
              have q774 : x27_2 < (l1.length : Int) := od_
              obtain ⟨ad774, e774, hx774_0⟩ := Kd.at_int HR1.out x27_2 p774 q774
              cases e774
              replace hx774_0 := (HB.out.cell (World.block_lt_of_cell? w _ hx774_0)).trans hx774_0
              replace p774 := eq_true p774
              replace q774 := eq_true q774
              go_wp2
              go_ret2
              exact ⟨by first | rfl | (simp [errW_none, errW_some] <;> rfl) | (simp [*, errW_none, errW_some] <;> rfl), (q0_ HB.out)⟩
             ·rw [if_neg c13] at H
              have c13b0 : decide ((rd l1 x27_2) < 0) = false := decide_eq_false c13
              clear c13
              by_cases c14 : (rd l1 x27_2) > 1073741824
              ·rw [if_pos c14] at H
               have c14b0 : decide (1073741824 < (rd l1 x27_2)) = true := decide_eq_true c14
               clear c14
               simp only [Option.some.injEq, Prod.mk.injEq] at H
               obtain ⟨rfl, rfl⟩ := H
               have p773 : 0 ≤ (x27_2 : Int) := od_
               have q773 : x27_2 < (l0.length : Int) := od_
               obtain ⟨ad773, e773, hx773_0⟩ := Kd.at_int HR0.out x27_2 p773 q773
               cases e773
               replace hx773_0 := (HB.out.cell (World.block_lt_of_cell? w _ hx773_0)).trans hx773_0
               replace p773 := eq_true p773
               replace q773 := eq_true q773
               have p774 : 0 ≤ (x27_2 : Int) := od_
               have q774 : x27_2 < (l1.length : Int) := od_
               obtain ⟨ad774, e774, hx774_0⟩ := Kd.at_int HR1.out x27_2 p774 q774
               cases e774
               replace hx774_0 := (HB.out.cell (World.block_lt_of_cell? w _ hx774_0)).trans hx774_0
               replace p774 := eq_true p774
               replace q774 := eq_true q774
               have p775 : 0 ≤ (x27_2 : Int) := od_
               have q775 : x27_2 < (l1.length : Int) := od_
               obtain ⟨ad775, e775, hx775_0⟩ := Kd.at_int HR1.out x27_2 p775 q775
               obtain rfl : ad774 = ad775 := (by injection e775)
               replace hx775_0 := (HB.out.cell (World.block_lt_of_cell? w _ hx775_0)).trans hx775_0
               replace p775 := eq_true p775
               replace q775 := eq_true q775
               go_wp2
               go_ret2
               exact ⟨by first | rfl | (simp [errW_none, errW_some] <;> rfl) | (simp [*, errW_none, errW_some] <;> rfl), (q0_ HB.out)⟩
              ·rw [if_neg c14] at H
               have c14b0 : decide (1073741824 < (rd l1 x27_2)) = false := decide_eq_false c14
               clear c14
               have H' := Aside0.mk H
               clear H
               have p773 : 0 ≤ (x27_2 : Int) := od_
               have q773 : x27_2 < (l0.length : Int) := od_
               obtain ⟨ad773, e773, hx773_0⟩ := Kd.at_int HR0.out x27_2 p773 q773
               cases e773
               replace hx773_0 := (HB.out.cell (World.block_lt_of_cell? w _ hx773_0)).trans hx773_0
               replace p773 := eq_true p773
               replace q773 := eq_true q773
               have p774 : 0 ≤ (x27_2 : Int) := od_
               have q774 : x27_2 < (l1.length : Int) := od_
               obtain ⟨ad774, e774, hx774_0⟩ := Kd.at_int HR1.out x27_2 p774 q774
               cases e774
               replace hx774_0 := (HB.out.cell (World.block_lt_of_cell? w _ hx774_0)).trans hx774_0
               replace p774 := eq_true p774
               replace q774 := eq_true q774
               have p775 : 0 ≤ (x27_2 : Int) := od_
               have q775 : x27_2 < (l1.length : Int) := od_
               obtain ⟨ad775, e775, hx775_0⟩ := Kd.at_int HR1.out x27_2 p775 q775
               obtain rfl : ad774 = ad775 := (by injection e775)
               replace hx775_0 := (HB.out.cell (World.block_lt_of_cell? w _ hx775_0)).trans hx775_0
               replace p775 := eq_true p775
               replace q775 := eq_true q775
               go_wp2
               go_roundg k2
               case measure => have := HJ2.out; have := HK2.out; omega
               case rel => exact ⟨(wrap64 (x27_2 + 1)), (by first | rfl | (simp; done) | (simp [*]; done)), H', ⟨by have := HJ2.out; have := HK2.out; omega⟩, ⟨(q0_ HB.out)⟩⟩
            ·rw [if_neg c12] at H
             exact absurd H (by simp)
         ·rw [if_neg c9] at H
          exact absurd H (by simp)
        ·rw [if_neg c8] at H
         exact absurd H (by simp)
       ·rw [if_neg c7] at H
        have c7b0 : decide (x27_2 < (l0.length : Int)) = false := decide_eq_false c7
        clear c7
        replace H := Option.bind_eq_some_iff.mp H
        obtain ⟨t776, A150, H⟩ := H
        replace H : ((num_latest.f k2 l0 l1).bind fun t777 => (num_Fair.l1 k2 l0 l1 t776 t777 l0 (l0.length : Int) 0)) = some (r1, r2) := H
        have A15 := Aside0.mk A150
        clear A150
        replace H := Option.bind_eq_some_iff.mp H
        obtain ⟨t777, A160, H⟩ := H
        replace H : (num_Fair.l1 k2 l0 l1 t776 t777 l0 (l0.length : Int) 0) = some (r1, r2) := H
        have A16 := Aside0.mk A160
        clear A160
        have H' := Aside0.mk H
        clear H
        go_wp2_with (first | ((with_reducible refine gate_callee (f := 87) rfl ?_); refine goesL_ (some 55) rfl rfl Tryd.func87 (by kernel_rfl) rfl #[.slice A0 l0.length c0, .slice A1 l1.length c1] rfl qe_ ?_; (with_reducible refine (num_next.calls k2 _ _ l0 _ _ l1 t776 _ ?side1 ?side2 ?side3 ?side4 A15.out).mono ?_); (case side1 => exact qc_ (Kd.C_below HR0.out HB.out)); (case side2 => exact HC0.out); (case side3 => exact qc_ (Kd.C_below HR1.out HB.out)); (case side4 => exact HC1.out); rintro e w17 ⟨rfl, hb⟩; refine ⟨_, rfl, ?_⟩; have n0_ := Aside0.mk (below_step (q0_ HB.out) hb); clear HB; have HB := n0_; clear n0_; (try clear hb); (try clear hb2); (try clear hk); (try clear hi)) | ((with_reducible refine gate_callee (f := 88) rfl ?_); refine goesL_ (some 58) rfl rfl Tryd.func88 (by kernel_rfl) rfl #[.slice A0 l0.length c0, .slice A1 l1.length c1] rfl qe_ ?_; (with_reducible refine (num_latest.calls k2 _ _ l0 _ _ l1 t777 _ ?side1 ?side2 ?side3 ?side4 A16.out).mono ?_); (case side1 => exact qc_ (Kd.C_below HR0.out HB.out)); (case side2 => exact HC0.out); (case side3 => exact qc_ (Kd.C_below HR1.out HB.out)); (case side4 => exact HC1.out); rintro e w18 ⟨rfl, hb⟩; refine ⟨_, rfl, ?_⟩; have n0_ := Aside0.mk (below_step (q0_ HB.out) hb); clear HB; have HB := n0_; clear n0_; (try clear hb); (try clear hb2); (try clear hk); (try clear hi)))
        go_loopg [61] k2 (fun kq v61 w' => ∃ (x61_3 : Int), v61 = .int .i64 x61_3 ∧ Aside0 (num_Fair.l1 kq l0 l1 t776 t777 l0 (l0.length : Int) x61_3 = some (r1, r2)) ∧ Aside0 (kq ≤ k2) ∧ Aside0 (Below w.heap.size w w'))
        case atStart => exact ⟨(0), (by first | rfl | (simp; done) | (simp [*]; done)), H', ⟨Nat.le_refl _⟩, ⟨(q0_ HB.out)⟩⟩
        case round =>
         clear H'
         try clear c1
         try clear p2
         try clear c4
         try clear c4b0
         try clear c4b1
         try clear c5
         try clear c6
         try clear c6b0
         try clear c6b1
         try clear c6b2
         try clear p6
         try clear c7
         try clear c7b0
         try clear p7
         try clear q7
         try clear hx7
         try clear c8
         try clear c8b0
         try clear c9
         try clear c9b0
         try clear c10
         try clear c10b0
         try clear c11
         try clear c11b0
         try clear c12
         try clear c12b0
         try clear c13
         try clear c13b0
         try clear c14
         try clear c14b0
         try clear hx773_0
         try clear hx774_0
         try clear hx775_0
         try clear p2
         try clear p773
         try clear p774
         try clear p775
         try clear q773
         try clear q774
         try clear q775
         obtain ⟨x61_3, rfl, HA, HK3, HB⟩ := hrel
         cases gk with
         | zero => exact absurd HA.out (by simp [num_Fair.l1])
         | succ k3 =>
          have H := HA.out
          clear HA
          simp only [num_Fair.l1] at H
          by_cases c19 : x61_3 < (l0.length : Int)
          ·rw [if_pos c19] at H
           have c19b0 : decide (x61_3 < (l0.length : Int)) = true := decide_eq_true c19
           clear c19
           by_cases c20 : 0 ≤ x61_3
           ·rw [if_pos c20] at H
            have c20b0 : decide (0 ≤ x61_3) = true := decide_eq_true c20
            clear c20
            by_cases c21 : x61_3 < (l0.length : Int)
            ·rw [if_pos c21] at H
             have c21b0 : decide (x61_3 < (l0.length : Int)) = true := decide_eq_true c21
             clear c21
             by_cases c22 : x61_3 < (l1.length : Int)
             ·rw [if_pos c22] at H
              have c22b0 : decide (x61_3 < (l1.length : Int)) = true := decide_eq_true c22
              clear c22
              by_cases c23 : (rd l1 x61_3) = 0
              ·rw [if_pos c23] at H
               have c23b0 : ((rd l1 x61_3) == 0) = true := beq_iff_eq.mpr c23
               have c23b1 : ((rd l1 x61_3) != 0) = false := bne_eq_false_iff_eq.mpr c23
               clear c23
               by_cases c24 : (rd l0 x61_3) = 0
               ·rw [if_pos c24] at H
                have c24b0 : ((rd l0 x61_3) == 0) = true := beq_iff_eq.mpr c24
                have c24b1 : ((rd l0 x61_3) != 0) = false := bne_eq_false_iff_eq.mpr c24
                clear c24
                have H' := Aside0.mk H
                clear H
                have p778 : 0 ≤ (x61_3 : Int) := od_
                have q778 : x61_3 < (l0.length : Int) := od_
                obtain ⟨ad778, e778, hx778_0⟩ := Kd.at_int HR0.out x61_3 p778 q778
                cases e778
                replace hx778_0 := (HB.out.cell (World.block_lt_of_cell? w _ hx778_0)).trans hx778_0
                replace p778 := eq_true p778
                replace q778 := eq_true q778
                have p779 : 0 ≤ (x61_3 : Int) := od_
                have q779 : x61_3 < (l1.length : Int) := od_
                obtain ⟨ad779, e779, hx779_0⟩ := Kd.at_int HR1.out x61_3 p779 q779
                cases e779
                replace hx779_0 := (HB.out.cell (World.block_lt_of_cell? w _ hx779_0)).trans hx779_0
                replace p779 := eq_true p779
                replace q779 := eq_true q779
                go_wp2
                go_roundg k3
                case measure => have := HJ2.out; have := HK2.out; have := HK3.out; omega
                case rel => exact ⟨(wrap64 (x61_3 + 1)), (by first | rfl | (simp; done) | (simp [*]; done)), H', ⟨by have := HJ2.out; have := HK2.out; have := HK3.out; omega⟩, ⟨(q0_ HB.out)⟩⟩
               ·rw [if_neg c24] at H
                have c24b0 : ((rd l0 x61_3) == 0) = false := beq_eq_false_iff_ne.mpr c24
                have c24b1 : ((rd l0 x61_3) != 0) = true := bne_iff_ne.mpr c24
                simp only [Option.some.injEq, Prod.mk.injEq] at H
                obtain ⟨rfl, rfl⟩ := H
                have p778 : 0 ≤ (x61_3 : Int) := od_
                have q778 : x61_3 < (l0.length : Int) := od_
                obtain ⟨ad778, e778, hx778_0⟩ := Kd.at_int HR0.out x61_3 p778 q778
                cases e778
                replace hx778_0 := (HB.out.cell (World.block_lt_of_cell? w _ hx778_0)).trans hx778_0
                replace p778 := eq_true p778
                replace q778 := eq_true q778
                have p779 : 0 ≤ (x61_3 : Int) := od_
                have q779 : x61_3 < (l1.length : Int) := od_
                obtain ⟨ad779, e779, hx779_0⟩ := Kd.at_int HR1.out x61_3 p779 q779
                cases e779
                replace hx779_0 := (HB.out.cell (World.block_lt_of_cell? w _ hx779_0)).trans hx779_0
                replace p779 := eq_true p779
                replace q779 := eq_true q779
                go_wp2
                go_ret2
                exact ⟨by first | rfl | (simp [errW_none, errW_some] <;> rfl) | (simp [*, errW_none, errW_some] <;> rfl), (q0_ HB.out)⟩
              ·rw [if_neg c23] at H
               have c23b0 : ((rd l1 x61_3) == 0) = false := beq_eq_false_iff_ne.mpr c23
               have c23b1 : ((rd l1 x61_3) != 0) = true := bne_iff_ne.mpr c23
               have H' := Aside0.mk H
               clear H
               have p778 : 0 ≤ (x61_3 : Int) := od_
               have q778 : x61_3 < (l0.length : Int) := od_
               obtain ⟨ad778, e778, hx778_0⟩ := Kd.at_int HR0.out x61_3 p778 q778
               cases e778
               replace hx778_0 := (HB.out.cell (World.block_lt_of_cell? w _ hx778_0)).trans hx778_0
               replace p778 := eq_true p778
               replace q778 := eq_true q778
               have p779 : 0 ≤ (x61_3 : Int) := od_
               have q779 : x61_3 < (l1.length : Int) := od_
               obtain ⟨ad779, e779, hx779_0⟩ := Kd.at_int HR1.out x61_3 p779 q779
               cases e779
               replace hx779_0 := (HB.out.cell (World.block_lt_of_cell? w _ hx779_0)).trans hx779_0
               replace p779 := eq_true p779
               replace q779 := eq_true q779
               go_wp2
               go_roundg k3
               case measure => have := HJ2.out; have := HK2.out; have := HK3.out; omega
               case rel => exact ⟨(wrap64 (x61_3 + 1)), (by first | rfl | (simp; done) | (simp [*]; done)), H', ⟨by have := HJ2.out; have := HK2.out; have := HK3.out; omega⟩, ⟨(q0_ HB.out)⟩⟩
             ·rw [if_neg c22] at H
              exact absurd H (by simp)
            ·rw [if_neg c21] at H
             exact absurd H (by simp)
           ·rw [if_neg c20] at H
            exact absurd H (by simp)
          ·rw [if_neg c19] at H
           have c19b0 : decide (x61_3 < (l0.length : Int)) = false := decide_eq_false c19
           clear c19
           by_cases c25 : t776 < 0
           ·rw [if_pos c25] at H
            have c25b0 : decide (t776 < 0) = true := decide_eq_true c25
            clear c25
            simp only [Option.some.injEq, Prod.mk.injEq] at H
            obtain ⟨rfl, rfl⟩ := H
            go_wp2
            go_ret2
            exact ⟨by first | rfl | (simp [errW_none, errW_some] <;> rfl) | (simp [*, errW_none, errW_some] <;> rfl), (q0_ HB.out)⟩
           ·rw [if_neg c25] at H
            have c25b0 : decide (t776 < 0) = false := decide_eq_false c25
            clear c25
            by_cases c26 : t777 < 0
            ·rw [if_pos c26] at H
             have c26b0 : decide (t777 < 0) = true := decide_eq_true c26
             clear c26
             simp only [Option.some.injEq, Prod.mk.injEq] at H
             obtain ⟨rfl, rfl⟩ := H
             go_wp2
             go_ret2
             exact ⟨by first | rfl | (simp [errW_none, errW_some] <;> rfl) | (simp [*, errW_none, errW_some] <;> rfl), (q0_ HB.out)⟩
            ·rw [if_neg c26] at H
             have c26b0 : decide (t777 < 0) = false := decide_eq_false c26
             clear c26
             by_cases c27 : 0 ≤ t777
             ·rw [if_pos c27] at H
              have c27b0 : decide (0 ≤ t777) = true := decide_eq_true c27
              clear c27
              by_cases c28 : t777 < (l0.length : Int)
              ·rw [if_pos c28] at H
               have c28b0 : decide (t777 < (l0.length : Int)) = true := decide_eq_true c28
               clear c28
               by_cases c29 : t777 < (l1.length : Int)
               ·rw [if_pos c29] at H
                have c29b0 : decide (t777 < (l1.length : Int)) = true := decide_eq_true c29
                clear c29
                by_cases c30 : 0 ≤ t776
                ·rw [if_pos c30] at H
                 have c30b0 : decide (0 ≤ t776) = true := decide_eq_true c30
                 clear c30
                 by_cases c31 : t776 < (l0.length : Int)
                 ·rw [if_pos c31] at H
                  have c31b0 : decide (t776 < (l0.length : Int)) = true := decide_eq_true c31
                  clear c31
                  by_cases c32 : t776 < (l1.length : Int)
                  ·rw [if_pos c32] at H
                   have c32b0 : decide (t776 < (l1.length : Int)) = true := decide_eq_true c32
                   clear c32
                   replace H := Option.bind_eq_some_iff.mp H
                   obtain ⟨t784, A330, H⟩ := H
                   replace H : (some (decide (t784 ≤ 0), 0)) = some (r1, r2) := H
                   have A33 := Aside0.mk A330
                   clear A330
                   simp only [Option.some.injEq, Prod.mk.injEq] at H
                   obtain ⟨rfl, rfl⟩ := H
                   try go_wp2
                   have n0_ := Aside0.mk (below_drew1 HB.out)
                   clear HB
                   have HB := n0_
                   clear n0_
                   have p780 : 0 ≤ (t777 : Int) := od_
                   have q780 : t777 < (l0.length : Int) := od_
                   obtain ⟨ad780, e780, hx780_0⟩ := Kd.at_int HR0.out t777 p780 q780
                   have hw780_0 := hx780_0
                   cases e780
                   replace hx780_0 := (HB.out.cell (World.block_lt_of_cell? w _ hx780_0)).trans hx780_0
                   replace p780 := eq_true p780
                   replace q780 := eq_true q780
                   have p781 : 0 ≤ (t777 : Int) := od_
                   have q781 : t777 < (l1.length : Int) := od_
                   obtain ⟨ad781, e781, hx781_0⟩ := Kd.at_int HR1.out t777 p781 q781
                   have hw781_0 := hx781_0
                   cases e781
                   replace hx781_0 := (HB.out.cell (World.block_lt_of_cell? w _ hx781_0)).trans hx781_0
                   replace p781 := eq_true p781
                   replace q781 := eq_true q781
                   have p782 : 0 ≤ (t776 : Int) := od_
                   have q782 : t776 < (l0.length : Int) := od_
                   obtain ⟨ad782, e782, hx782_0⟩ := Kd.at_int HR0.out t776 p782 q782
                   have hw782_0 := hx782_0
                   obtain rfl : ad780 = ad782 := (by injection e782)
                   replace hx782_0 := (HB.out.cell (World.block_lt_of_cell? w _ hx782_0)).trans hx782_0
                   replace p782 := eq_true p782
                   replace q782 := eq_true q782
                   have p783 : 0 ≤ (t776 : Int) := od_
                   have q783 : t776 < (l1.length : Int) := od_
                   obtain ⟨ad783, e783, hx783_0⟩ := Kd.at_int HR1.out t776 p783 q783
                   have hw783_0 := hx783_0
                   obtain rfl : ad781 = ad783 := (by injection e783)
                   replace hx783_0 := (HB.out.cell (World.block_lt_of_cell? w _ hx783_0)).trans hx783_0
                   replace p783 := eq_true p783
                   replace q783 := eq_true q783
                   refine start_ (n := 24) (S := fun w' => w'.cell? (ad780.add (t777).toNat) = some (.int .i64 (rd l0 t777)) ∧ w'.cell? (ad781.add (t777).toNat) = some (.int .i64 (rd l1 t777)) ∧ w'.cell? (ad780.add (t776).toNat) = some (.int .i64 (rd l0 t776)) ∧ w'.cell? (ad781.add (t776).toNat) = some (.int .i64 (rd l1 t776))) (ds := []) #[false, false, false, false, false, false, false, false, false, false, false, false, false, false, false, false, false, false, false, false, false, false, false, false] (by kernel_rfl) rfl rfl ⟨((HB.out.cell (World.block_lt_of_cell? w _ hw780_0)).trans hw780_0), ((HB.out.cell (World.block_lt_of_cell? w _ hw781_0)).trans hw781_0), ((HB.out.cell (World.block_lt_of_cell? w _ hw782_0)).trans hw782_0), ((HB.out.cell (World.block_lt_of_cell? w _ hw783_0)).trans hw783_0)⟩ (fun hHeld => ?_); refine with_tabW num_Fair.tab20 num_Fair.bits20 (fun HT_ HW_ => ?_)
                   generalize wr.drew = w34 at HB hx780_0 hx781_0 hx782_0 hx783_0 hHeld ⊢
                   refine pu_ 0 82 24 1 HT_.out ?_
                   refine pu_ 1 83 24 3 HT_.out ?_
                   refine pu_ 2 84 24 7 HT_.out ?_
                   refine pu_ 6 88 24 71 HT_.out ?_
                   refine pu_ 7 89 24 199 HT_.out ?_
                   refine pu_ 8 90 24 455 HT_.out ?_
                   refine pu_ 10 92 24 1479 HT_.out ?_
                   refine pu_ 11 93 24 3527 HT_.out ?_
                   refine pu_ 12 94 24 7623 HT_.out ?_
                   refine pu_ 16 98 24 73159 HT_.out ?_
                   refine pu_ 17 99 24 204231 HT_.out ?_
                   refine pu_ 18 100 24 466375 HT_.out ?_
                   refine ta_ 3 85 24 466383 rfl rfl HT_.out HW_.out hHeld (Or.inl ⟨by rfl, by rintro w' ⟨s0, s1, s2, s3⟩; go_simp; with_reducible rfl⟩) ?_
                   refine pu_ 4 86 24 466399 HT_.out ?_
                   refine pu_ 5 87 24 466431 HT_.out ?_
                   refine ta_ 9 91 24 466943 rfl rfl HT_.out HW_.out hHeld (Or.inl ⟨by rfl, by rintro w' ⟨s0, s1, s2, s3⟩; go_simp; with_reducible rfl⟩) ?_
                   refine ta_ 13 95 24 475135 rfl rfl HT_.out HW_.out hHeld (Or.inl ⟨by rfl, by rintro w' ⟨s0, s1, s2, s3⟩; go_simp; with_reducible rfl⟩) ?_
                   refine pu_ 14 96 24 491519 HT_.out ?_
                   refine pu_ 15 97 24 524287 HT_.out ?_
                   refine ta_ 19 101 24 1048575 rfl rfl HT_.out HW_.out hHeld (Or.inl ⟨by rfl, by rintro w' ⟨s0, s1, s2, s3⟩; go_simp; with_reducible rfl⟩) ?_
                   refine one_ (i := 20) (N := some 102) #[true, true, true, true, true, true, true, true, true, true, true, true, true, true, true, true, true, true, true, true, true, false, false, false] rfl rfl (one_of HT_.out (by kernel_rfl)) (by decide) (fun K hK => ?_)
                   refine goes_ Tryd.func89 (by kernel_rfl) rfl #[.int .i64 (wrap64 ((wrap64 (2 * (rd l0 t777))) - 1)), .int .i64 (rd l1 t777), .int .i64 (wrap64 ((wrap64 (2 * (rd l0 t776))) + 1)), .int .i64 (rd l1 t776)] (by rfl) rfl rfl qe_ ?_
                   with_reducible refine (num_before.calls k3 (wrap64 ((wrap64 (2 * (rd l0 t777))) - 1)) (rd l1 t777) (wrap64 ((wrap64 (2 * (rd l0 t776))) + 1)) (rd l1 t776) t784 _ A33.out).mono ?_
                   rintro e w35 ⟨rfl, hb⟩
                   refine ⟨_, rfl, ?_⟩
                   have n0_ := Aside0.mk (below_step (q0_ HB.out) hb)
                   clear HB
                   have HB := n0_
                   clear n0_
                   (try clear hb)
                   (try clear hb2)
                   (try clear hk)
                   (try clear hi)
                   refine hK.out _ _ ⟨((HB.out.cell (World.block_lt_of_cell? w _ hw780_0)).trans hw780_0), ((HB.out.cell (World.block_lt_of_cell? w _ hw781_0)).trans hw781_0), ((HB.out.cell (World.block_lt_of_cell? w _ hw782_0)).trans hw782_0), ((HB.out.cell (World.block_lt_of_cell? w _ hw783_0)).trans hw783_0)⟩ (fun hHeld => ?_)
                   clear hK K
                   refine norm_ (a' := ?_) ?_ ?_
                   rotate_left
                   ·show Act.put _ (some 102) _ = _
                    simp only [Act.put, List.setIfInBounds_toArray, List.set_cons_zero, List.set_cons_succ, i64_w, i32_w]
                    rfl
                   refine pu_ 21 103 24 4194303 HT_.out ?_
                   refine pu_ 22 4 24 8388607 HT_.out ?_
                   refine pure_ (i := 23) (N := some 5) (v := ?_) (a' := ?_) #[true, true, true, true, true, true, true, true, true, true, true, true, true, true, true, true, true, true, true, true, true, true, true, true] rfl rfl (any_of HT_.out (by kernel_rfl)) (fun _ _ _ h => h) (Or.inl ⟨by rfl, ?_⟩) ?_ ?_
                   rotate_left
                   ·intro w'
                    go_simp
                    with_reducible rfl
                   rotate_left
                   ·simp only [Act.put, List.setIfInBounds_toArray, List.set_cons_zero, List.set_cons_succ, i64_w, i32_w]
                    rfl
                   refine done_ (done_of HT_.out (by kernel_rfl)) ?_
                   try go_wp2
                   go_ret2
                   exact ⟨by first | rfl | (simp [errW_none, errW_some] <;> rfl) | (simp [*, errW_none, errW_some] <;> rfl), (q0_ HB.out)⟩
                  ·rw [if_neg c32] at H
                   exact absurd H (by simp)
                 ·rw [if_neg c31] at H
                  exact absurd H (by simp)
                ·rw [if_neg c30] at H
                 exact absurd H (by simp)
               ·rw [if_neg c29] at H
                exact absurd H (by simp)
              ·rw [if_neg c28] at H
               exact absurd H (by simp)
             ·rw [if_neg c27] at H
              exact absurd H (by simp)
    ·rw [if_neg c6] at H
     have c6b0 : ((l0.length : Int) == (l1.length : Int)) = false := beq_eq_false_iff_ne.mpr c6
     have c6b1 : ((l0.length : Int) != (l1.length : Int)) = true := bne_iff_ne.mpr c6
     have c6b2 : (l0.length == l1.length) = false := by first | simpa using c6 | (simp at c6 ⊢; omega)
     simp only [Option.some.injEq, Prod.mk.injEq] at H
     obtain ⟨rfl, rfl⟩ := H
     go_wp2
     go_ret2
     exact ⟨by first | rfl | (simp [errW_none, errW_some] <;> rfl) | (simp [*, errW_none, errW_some] <;> rfl), (q0_ HB.out)⟩
end Go.Proofs.YtdjnneflpkllmaaDoor.Q

namespace Go.Proofs.Num
open Go.RowKit Go.Proofs.YtdjnneflpkllmaaDoorW.PrintWords Go.Proofs.YtdjnneflpkllmaaDoorW.PrintMore Go.Proofs.YtdjnneflpkllmaaDoor.Q
set_option linter.unusedVariables false
set_option linter.unusedSimpArgs false
def FairQ (n : Nat) (p w : Nat → Int) : Prop := (∀ i, i < n → w i = 0 → p i = 0) ∧ ∀ i j, i < n → j < n → 0 < w i → 0 < w j → 0 < p i → (2 * p i - 1) * w j ≤ (2 * p j + 1) * w i
def fine (p w : List Int) : Prop := ∀ i, i < p.length → (0 ≤ at_ p i ∧ at_ p i ≤ 1125899906842624) ∧ (0 ≤ at_ w i ∧ at_ w i ≤ 1073741824)
theorem fine_fits {p w : List Int} (h : fine p w) (hl : p.length = w.length) (few : w.length ≤ 256) : Fits p w :=
  ⟨hl, few, fun i hi => ⟨(h i hi).1.1, by have := (h i hi).1.2; omega⟩, fun i hi => (h i (by omega)).2⟩
theorem fair_l1 {p w : List Int} (h : fine p w) (hl : p.length = w.length) (few : w.length ≤ 256) {f g : Int}
    (hf : (f = -1 ∧ ∀ j, j < w.length → at_ w j = 0) ∨ (∃ m : Nat, f = m ∧ Next w.length (at_ p) (at_ w) m)) (hg : (g = -1 ∧ ∀ j, j < w.length → at_ w j = 0 ∨ at_ p j = 0) ∨ (∃ m : Nat, g = m ∧ Latest w.length (at_ p) (at_ w) m)) :
    ∀ (c i : Nat), p.length - i = c → i ≤ p.length → (∀ j, j < i → at_ w j = 0 → at_ p j = 0) → ∃ b, Ev (fun k => num_Fair.l1 k p w f g p (p.length : Int) (i : Int)) (b, 0) ∧ (b = true ↔ FairQ p.length (at_ p) (at_ w)) := by
  intro c
  induction c with
  | zero =>
    intro i hc hi hz
    obtain rfl : i = p.length := by clear hf hg; omega
    have yes : FairQ p.length (at_ p) (at_ w) → ((f < 0 ∨ g < 0) → ∃ b, Ev (fun k => num_Fair.l1 k p w f g p (p.length : Int) (p.length : Int)) (b, 0) ∧ (b = true ↔ FairQ p.length (at_ p) (at_ w))) := fun q fg => by
      refine ⟨true, Ev.step (f := fun _ => some (true, 0)) (fun k => ?_) (Ev.now _), by simp [q]⟩
      clear hf hg
      rw [num_Fair.l1, if_neg (by omega)]
      by_cases c1 : f < 0
      · rw [if_pos c1]
      · rw [if_neg c1, if_pos (by omega)]
    rcases hf with ⟨rfl, zw⟩ | ⟨a, rfl, A⟩
    · exact yes ⟨hz, fun i j hi hj h1 => by have := zw i (by clear hg; omega); clear hg; omega⟩ (Or.inl (by clear hg; omega))
    · rcases hg with ⟨rfl, zp⟩ | ⟨m, rfl, B⟩
      · exact yes ⟨hz, fun i j hi hj h1 h2 h3 => by have := zp i (by omega); omega⟩ (Or.inr (by omega))
      · clear yes
        obtain ⟨ha, wa, aa⟩ := A
        obtain ⟨hb, wb, pb, bb⟩ := B
        have fa := h a (by omega)
        have fb := h m (by omega)
        have E := before_ok (a := 2 * at_ p m - 1) (v := at_ w m) (b := 2 * at_ p a + 1) (w := at_ w a) (by omega) (by omega) (by omega) (by omega) (by omega) (by omega) (by omega) (by omega)
        refine ⟨decide (cmpQ (2 * at_ p m - 1) (at_ w m) (2 * at_ p a + 1) (at_ w a) ≤ 0), ?_, ?_⟩
        · refine Ev.step (f := fun k => (num_before.f k (2 * at_ p m - 1) (at_ w m) (2 * at_ p a + 1) (at_ w a)).bind fun t784 => some (decide (t784 ≤ 0), 0)) (fun k => ?_) (Ev.bind E (Ev.now _))
          rw [num_Fair.l1, if_neg (by omega), if_neg (by omega), if_neg (by omega), if_pos (by omega), if_pos (by omega), if_pos (by omega), if_pos (by omega), if_pos (by omega), if_pos (by omega), rd_nat, rd_nat, rd_nat, rd_nat, wd64 (x := 2 * at_ p m) (by omega) (by omega), wd64 (x := 2 * at_ p a) (by omega) (by omega), wd64 (x := 2 * at_ p m - 1) (by omega) (by omega), wd64 (x := 2 * at_ p a + 1) (by omega) (by omega)]
        · have cv : cmpQ (2 * at_ p m - 1) (at_ w m) (2 * at_ p a + 1) (at_ w a) ≤ 0 ↔ (2 * at_ p m - 1) * at_ w a ≤ (2 * at_ p a + 1) * at_ w m := by
            unfold cmpQ
            constructor
            · intro hh; (repeat' split at hh) <;> omega
            · intro hh; (repeat' split) <;> omega
          rw [decide_eq_true_eq, cv]
          constructor
          · intro key
            refine ⟨hz, fun i j hi hj h1 h2 h3 => ?_⟩
            have x1 : (2 * at_ p i - 1) * at_ w m ≤ (2 * at_ p m - 1) * at_ w i := by
              by_cases e : i = m
              · subst e; omega
              · exact (bb i (by omega) h1 h3 e).le
            have x2 : (2 * at_ p a + 1) * at_ w j ≤ (2 * at_ p j + 1) * at_ w a := by
              by_cases e : j = a
              · subst e; omega
              · exact (aa j (by omega) h2 e).le
            -- through m and a
            have s1 := mul_le_r x1 (show 0 ≤ at_ w a by omega)
            have s2 := mul_le_r key (show 0 ≤ at_ w i by omega)
            have e1 : (2 * at_ p i - 1) * at_ w m * at_ w a = (2 * at_ p i - 1) * at_ w a * at_ w m := by grind
            have e2 : (2 * at_ p m - 1) * at_ w i * at_ w a = (2 * at_ p m - 1) * at_ w a * at_ w i := by grind
            have e3 : (2 * at_ p a + 1) * at_ w m * at_ w i = (2 * at_ p a + 1) * at_ w i * at_ w m := by grind
            have x3 : (2 * at_ p i - 1) * at_ w a ≤ (2 * at_ p a + 1) * at_ w i := le_of_mul_r (show (2 * at_ p i - 1) * at_ w a * at_ w m ≤ (2 * at_ p a + 1) * at_ w i * at_ w m by omega) wb
            have s3 := mul_le_r x3 (show 0 ≤ at_ w j by omega)
            have s4 := mul_le_r x2 (show 0 ≤ at_ w i by omega)
            have e4 : (2 * at_ p i - 1) * at_ w a * at_ w j = (2 * at_ p i - 1) * at_ w j * at_ w a := by grind
            have e5 : (2 * at_ p a + 1) * at_ w i * at_ w j = (2 * at_ p a + 1) * at_ w j * at_ w i := by grind
            have e6 : (2 * at_ p j + 1) * at_ w a * at_ w i = (2 * at_ p j + 1) * at_ w i * at_ w a := by grind
            exact le_of_mul_r (show (2 * at_ p i - 1) * at_ w j * at_ w a ≤ (2 * at_ p j + 1) * at_ w i * at_ w a by omega) wa
          · intro q
            exact q.2 m a (by omega) (by omega) wb wa pb
  | succ c ih =>
    intro i hc hi hz
    have hfi := h i (by clear hf hg; omega)
    by_cases c1 : at_ w i = 0 ∧ at_ p i ≠ 0
    · refine ⟨false, Ev.step (f := fun _ => some (false, 0)) (fun k => ?_) (Ev.now _), by
        constructor
        · intro hh; cases hh
        · intro q; exact (c1.2 (q.1 i (by clear hf hg; omega) c1.1)).elim⟩
      clear hf hg ih
      rw [num_Fair.l1, if_pos (by omega), if_pos (by omega), if_pos (by omega), if_pos (by omega), rd_nat, if_pos c1.1, rd_nat, if_neg c1.2]
    · obtain ⟨b, E, hb⟩ := ih (i + 1) (by clear hf hg; omega) (by clear hf hg; omega) (fun j hj hw => by
        rcases Nat.lt_or_ge j i with d | d
        · exact hz j d hw
        · obtain rfl : j = i := by clear hf hg ih; omega
          exact Classical.byContradiction (fun hp => c1 ⟨hw, hp⟩))
      refine ⟨b, Ev.step (f := fun k => num_Fair.l1 k p w f g p (p.length : Int) ((i + 1 : Nat) : Int)) (fun k => ?_) E, hb⟩
      clear hf hg ih hb
      rw [num_Fair.l1, if_pos (by omega), if_pos (by omega), if_pos (by omega), if_pos (by omega), rd_nat, rd_nat, wd64 (x := (i : Int) + 1) (by omega) (by omega)]
      by_cases d : at_ w i = 0
      · rw [if_pos d, if_pos (by omega)]; rfl
      · rw [if_neg d]; rfl
theorem fair_l0 {p w : List Int} (hl : p.length = w.length) (few : w.length ≤ 256) : ∀ (c i : Nat), p.length - i = c → i ≤ p.length → (∀ j, j < i → (0 ≤ at_ p j ∧ at_ p j ≤ 1125899906842624) ∧ (0 ≤ at_ w j ∧ at_ w j ≤ 1073741824)) →
    ∃ v : Bool × Int, Ev (fun k => num_Fair.l0 k p w p (p.length : Int) (i : Int)) v ∧ ((¬ fine p w ∧ v = (false, 2)) ∨ (fine p w ∧ v.2 = 0 ∧ (v.1 = true ↔ FairQ p.length (at_ p) (at_ w)))) := by
  intro c
  induction c with
  | zero =>
    intro i hc hi hs
    obtain rfl : i = p.length := by omega
    obtain ⟨f, Ef, hf⟩ := next_ok (fine_fits hs hl few)
    obtain ⟨g, Eg, hg⟩ := latest_ok (fine_fits hs hl few)
    obtain ⟨b, Eb, hb⟩ := fair_l1 hs hl few hf hg p.length 0 rfl (by clear hf hg; omega) (fun j hj => by clear hf hg; omega)
    refine ⟨(b, 0), ?_, Or.inr ⟨hs, rfl, hb⟩⟩
    clear hf hg hb
    refine Ev.step (f := fun k => (num_next.f k p w).bind fun t776 => ((num_latest.f k p w).bind fun t777 => (num_Fair.l1 k p w t776 t777 p (p.length : Int) ((0 : Nat) : Int)))) (fun k => ?_) (Ev.bind Ef (Ev.bind Eg Eb))
    rw [num_Fair.l0, if_neg (by omega)]
    rfl
  | succ c ih =>
    intro i hc hi hs
    by_cases c1 : (0 ≤ at_ p i ∧ at_ p i ≤ 1125899906842624) ∧ (0 ≤ at_ w i ∧ at_ w i ≤ 1073741824)
    · obtain ⟨v, E, hv⟩ := ih (i + 1) (by omega) (by omega) (fun j hj => by
        rcases Nat.lt_or_ge j i with d | d
        · exact hs j d
        · obtain rfl : j = i := by omega
          exact c1)
      refine ⟨v, Ev.step (f := fun k => num_Fair.l0 k p w p (p.length : Int) ((i + 1 : Nat) : Int)) (fun k => ?_) E, hv⟩
      clear hv ih
      rw [num_Fair.l0, if_pos (by omega), if_pos (by omega), if_pos (by omega), rd_nat, if_neg (by omega), if_neg (by omega), if_pos (by omega), rd_nat, if_neg (by omega), if_neg (by omega), wd64 (x := (i : Int) + 1) (by omega) (by omega)]
      rfl
    · refine ⟨(false, 2), Ev.step (f := fun _ => some (false, 2)) (fun k => ?_) (Ev.now _), Or.inl ⟨fun hf => c1 (hf i (by omega)), rfl⟩⟩
      rw [num_Fair.l0, if_pos (by omega), if_pos (by omega), if_pos (by omega), rd_nat, rd_nat, if_pos (show (i : Int) < (w.length : Int) by omega)]
      by_cases d1 : at_ p i < 0
      · rw [if_pos d1]
      · rw [if_neg d1]
        by_cases d2 : at_ p i > 1125899906842624
        · rw [if_pos d2]
        · rw [if_neg d2]
          by_cases d3 : at_ w i < 0
          · rw [if_pos d3]
          · rw [if_neg d3, if_pos (by omega)]
def FairSaid (p w : List Int) (v : Bool × Int) : Prop :=
  if p.length > 256 ∨ w.length > 256 then v = (false, 3) else if p.length = w.length then ((¬ fine p w ∧ v = (false, 2)) ∨ (fine p w ∧ v.2 = 0 ∧ (v.1 = true ↔ FairQ p.length (at_ p) (at_ w)))) else v = (false, 2)
theorem nfair_ok (p w : List Int) : ∃ v, Ev (fun k => num_Fair.f k p w) v ∧ FairSaid p w v := by
  unfold num_Fair.f FairSaid
  have bad : Ev (fun k => num_Fair.j0 k p w true) (false, 3) := Ev.step (f := fun _ => some (false, 3)) (fun k => by rw [num_Fair.j0, if_pos rfl]) (Ev.now _)
  by_cases h1 : p.length > 256
  · refine ⟨(false, 3), ?_, by rw [if_pos (Or.inl h1)]⟩
    simp only [if_pos (show (p.length : Int) > 256 by omega)]
    exact bad
  · simp only [if_neg (show ¬ (p.length : Int) > 256 by omega)]
    by_cases h2 : w.length > 256
    · refine ⟨(false, 3), ?_, by rw [if_pos (Or.inr h2)]⟩
      simp only [decide_eq_true (show (w.length : Int) > 256 by omega)]
      exact bad
    · simp only [decide_eq_false (show ¬ (w.length : Int) > 256 by omega)]
      simp only [if_neg (show ¬ (p.length > 256 ∨ w.length > 256) by omega)]
      by_cases h3 : p.length = w.length
      · simp only [if_pos h3]
        obtain ⟨v, E, hv⟩ := fair_l0 h3 (by omega) p.length 0 rfl (by omega) (fun j hj => by omega)
        refine ⟨v, Ev.step (f := fun k => num_Fair.l0 k p w p (p.length : Int) ((0 : Nat) : Int)) (fun k => ?_) E, hv⟩
        clear hv
        rw [num_Fair.j0, if_neg (by decide), if_pos (by omega)]
        rfl
      · simp only [if_neg h3]
        refine ⟨(false, 2), Ev.step (f := fun _ => some (false, 2)) (fun k => ?_) (Ev.now _), rfl⟩
        rw [num_Fair.j0, if_neg (by decide), if_neg (by omega)]
end Go.Proofs.Num
