/- Part 5 of the proof of NumMeans. -/
import Derived.Test.YtdjnneflpkllmaaDoorMNumMeans4
import Derived.BigRegion
import Derived.LoopN
import Derived.Lib.Hide
import Derived.Deep.DeepAppendWide
import Derived.RangeFuncBox
import Derived.Shelf.Strings.Repeat

namespace Go.Proofs.YtdjnneflpkllmaaDoor.Q
open Go.RowKit Go.Proofs.YtdjnneflpkllmaaDoorW.PrintWords Go.Proofs.YtdjnneflpkllmaaDoorW.PrintLast Go.Proofs.YtdjnneflpkllmaaDoorW.PrintMore
attribute [local go_sem] max2_int min2_int max_two min_two max_three min_three max_four min_four   -- for this text's walks alone
set_option linter.unusedVariables false
set_option linter.unusedSimpArgs false
mutual
def num_Mean.j0 : Nat → List Int → List Int → Int → Bool → Option (Int × Int)
  | 0, _, _, _, _ => none
  | k + 1, x0, x1, x2, x23 => if x23 = true then (some (0, 3)) else (if (x0.length : Int) = (x1.length : Int) then (num_Mean.l0 k x0 x1 x2 x0 (x0.length : Int) 0) else (some (0, 2)))
def num_Mean.l0 : Nat → List Int → List Int → Int → List Int → Int → Int → Option (Int × Int)
  | 0, _, _, _, _, _, _ => none
  | k + 1, x0, x1, x2, x29, x30, x31 => if x31 < x30 then (if 0 ≤ x31 then (if x31 < (x29.length : Int) then (if (rd x29 x31) < (-16777216) then (some (0, 2)) else (if (rd x29 x31) > 16777216 then (some (0, 2)) else (num_Mean.l0 k x0 x1 x2 x29 x30 (wrap64 (x31 + 1))))) else (none)) else (none)) else (num_Mean.l1 k x0 x2 0 0 x1 (x1.length : Int) 0)
def num_Mean.l1 : Nat → List Int → Int → Int → Int → List Int → Int → Int → Option (Int × Int)
  | 0, _, _, _, _, _, _, _ => none
  | k + 1, x0, x2, x10, x11, x42, x43, x44 => if x44 < x43 then (if 0 ≤ x44 then (if x44 < (x42.length : Int) then (if (rd x42 x44) < 0 then (some (0, 2)) else (if (rd x42 x44) > 1073741824 then (some (0, 2)) else (if x44 < (x0.length : Int) then (num_Mean.l1 k x0 x2 (wrap64 (x10 + (wrap64 ((rd x0 x44) * (rd x42 x44))))) (wrap64 (x11 + (rd x42 x44))) x42 x43 (wrap64 (x44 + 1))) else (none)))) else (none)) else (none)) else ((num_mode.f x2).bind fun t1163 => (if t1163 = true then (if x11 = 0 then (some (0, 5)) else ((num_size.f x10).bind fun t1164 => ((num_rounded.f k (decide (x10 < 0)) 0 t1164 (IntKind.u64.wrap (x11)) x2).bind fun bt1165 => (some (bt1165.1, 0))))) else (some (0, 2))))
end
def num_Mean.f (k : Nat) (l0 : List Int) (l1 : List Int) (a2 : Int) : Option (Int × Int) := if (l0.length : Int) > 256 then (num_Mean.j0 k l0 l1 a2 true) else (num_Mean.j0 k l0 l1 a2 (decide ((l1.length : Int) > 256)))
theorem num_Mean.mono_l : ∀ k, (∀ y0 y1 y2 y3, LeO (num_Mean.j0 k y0 y1 y2 y3) (num_Mean.j0 (k + 1) y0 y1 y2 y3)) ∧ (∀ y0 y1 y2 y3 y4 y5, LeO (num_Mean.l0 k y0 y1 y2 y3 y4 y5) (num_Mean.l0 (k + 1) y0 y1 y2 y3 y4 y5)) ∧ (∀ y0 y1 y2 y3 y4 y5 y6, LeO (num_Mean.l1 k y0 y1 y2 y3 y4 y5 y6) (num_Mean.l1 (k + 1) y0 y1 y2 y3 y4 y5 y6))
  | 0 => ⟨fun _ _ _ _ r h => by simp [num_Mean.j0] at h, fun _ _ _ _ _ _ r h => by simp [num_Mean.l0] at h, fun _ _ _ _ _ _ _ r h => by simp [num_Mean.l1] at h⟩
  | k + 1 => by
    obtain ⟨ih0, ih1, ih2⟩ := num_Mean.mono_l k
    refine ⟨?_, ?_, ?_⟩
    · intro y0 y1 y2 y3
      unfold num_Mean.j0
      repeat' first
      | (with_reducible exact ih0 _ _ _ _)
      | (with_reducible exact ih1 _ _ _ _ _ _)
      | (with_reducible exact ih2 _ _ _ _ _ _ _)
      | (with_reducible exact num_rounded.mono _ _ _ _ _ _)
      | (with_reducible exact LeO.refl _)
      | (with_reducible exact LeO.none _)
      | (with_reducible refine LeO.ite ?_ ?_)
      | (with_reducible refine LeO.bind ?_ (fun _ => ?_))
      | exact ih0 _ _ _ _
      | exact ih1 _ _ _ _ _ _
      | exact ih2 _ _ _ _ _ _ _
      | exact num_rounded.mono _ _ _ _ _ _
      | exact LeO.none _
      | refine LeO.ite ?_ ?_
      | refine LeO.bind ?_ (fun _ => ?_)
    · intro y0 y1 y2 y3 y4 y5
      unfold num_Mean.l0
      repeat' first
      | (with_reducible exact ih0 _ _ _ _)
      | (with_reducible exact ih1 _ _ _ _ _ _)
      | (with_reducible exact ih2 _ _ _ _ _ _ _)
      | (with_reducible exact num_rounded.mono _ _ _ _ _ _)
      | (with_reducible exact LeO.refl _)
      | (with_reducible exact LeO.none _)
      | (with_reducible refine LeO.ite ?_ ?_)
      | (with_reducible refine LeO.bind ?_ (fun _ => ?_))
      | exact ih0 _ _ _ _
      | exact ih1 _ _ _ _ _ _
      | exact ih2 _ _ _ _ _ _ _
      | exact num_rounded.mono _ _ _ _ _ _
      | exact LeO.none _
      | refine LeO.ite ?_ ?_
      | refine LeO.bind ?_ (fun _ => ?_)
    · intro y0 y1 y2 y3 y4 y5 y6
      unfold num_Mean.l1
      repeat' first
      | (with_reducible exact ih0 _ _ _ _)
      | (with_reducible exact ih1 _ _ _ _ _ _)
      | (with_reducible exact ih2 _ _ _ _ _ _ _)
      | (with_reducible exact num_rounded.mono _ _ _ _ _ _)
      | (with_reducible exact LeO.refl _)
      | (with_reducible exact LeO.none _)
      | (with_reducible refine LeO.ite ?_ ?_)
      | (with_reducible refine LeO.bind ?_ (fun _ => ?_))
      | exact ih0 _ _ _ _
      | exact ih1 _ _ _ _ _ _
      | exact ih2 _ _ _ _ _ _ _
      | exact num_rounded.mono _ _ _ _ _ _
      | exact LeO.none _
      | refine LeO.ite ?_ ?_
      | refine LeO.bind ?_ (fun _ => ?_)
theorem num_Mean.mono : ∀ a0 a1 a2 k, LeO (num_Mean.f k a0 a1 a2) (num_Mean.f (k + 1) a0 a1 a2) := by
  intro a0 a1 a2 k
  obtain ⟨ih0, ih1, ih2⟩ := num_Mean.mono_l k
  unfold num_Mean.f
  repeat' first
      | (with_reducible exact ih0 _ _ _ _)
      | (with_reducible exact ih1 _ _ _ _ _ _)
      | (with_reducible exact ih2 _ _ _ _ _ _ _)
      | (with_reducible exact num_rounded.mono _ _ _ _ _ _)
      | (with_reducible exact LeO.refl _)
      | (with_reducible exact LeO.none _)
      | (with_reducible refine LeO.ite ?_ ?_)
      | (with_reducible refine LeO.bind ?_ (fun _ => ?_))
      | exact ih0 _ _ _ _
      | exact ih1 _ _ _ _ _ _
      | exact ih2 _ _ _ _ _ _ _
      | exact num_rounded.mono _ _ _ _ _ _
      | exact LeO.none _
      | refine LeO.ite ?_ ?_
      | refine LeO.bind ?_ (fun _ => ?_)
set_option maxHeartbeats 8000000 in
set_option maxRecDepth 100000 in
theorem num_Mean.calls (k : Nat) (A0 : Option Addr) (c0 : Nat) (l0 : List Int) (A1 : Option Addr) (c1 : Nat) (l1 : List Int) (a2 : Int) (r1 : Int) (r2 : Int) (w : World) (hr0 : Kd.C (Kd.int .i64) w A0 l0.length l0) (hc0 : l0.length ≤ c0) (hr1 : Kd.C (Kd.int .i64) w A1 l1.length l1) (hc1 : l1.length ≤ c1) (h : num_Mean.f k l0 l1 a2 = some (r1, r2)) :
    Calls Tryd.prog 56 #[.slice A0 l0.length c0, .slice A1 l1.length c1, .int .i64 a2] w fun e w' => e = .returned (.tuple #[.int .i64 r1, .int .i64 r2]) ∧ Drawn0 w w' := by
  have HR0 := Aside0.mk hr0
  have HC0 := Aside0.mk hc0
  clear hr0 hc0
  have HR1 := Aside0.mk hr1
  have HC1 := Aside0.mk hc1
  clear hr1 hc1
  have H : (if (l0.length : Int) > 256 then (num_Mean.j0 k l0 l1 a2 true) else (num_Mean.j0 k l0 l1 a2 (decide ((l1.length : Int) > 256)))) = some (r1, r2) := h
  clear h
  have HC4 := Aside0.mk H
  clear H
  go_enter Tryd.func56, Tryd.ntmps56
  go_upto_region 1 with (fail)
  go_cut [23] (fun v23 wc => ∃ (kq : Nat) (x23_3 : Bool), v23 = .bool x23_3 ∧ Aside0 (num_Mean.j0 kq l0 l1 a2 x23_3 = some (r1, r2)) ∧ Aside0 (kq ≤ k) ∧ Drawn0 w wc)
  case first =>
    have H := HC4.out
    clear HC4
    by_cases c5 : (l0.length : Int) > 256
    · rw [if_pos c5] at H
      have c5b0 : decide (256 < (l0.length : Int)) = true := decide_eq_true c5
      have c5b1 : decide (256 < l0.length) = true := decide_eq_true (by omega)
      clear c5
      (first | rw [c5b0] | (simp only [i64_w, i32_w]; rw [c5b0]) | skip)
      have H' := Aside0.mk H
      clear H
      go_wp2
      go_meet
      case rel => exact ⟨_, (true), (by first | rfl | (simp; done) | (simp [*]; done)), H', ⟨by first | omega | exact Nat.le_refl _⟩, by repeat (first | exact Drawn0.refl _ | apply Drawn0.step)⟩
    · rw [if_neg c5] at H
      have c5b0 : decide (256 < (l0.length : Int)) = false := decide_eq_false c5
      have c5b1 : decide (256 < l0.length) = false := decide_eq_false (by omega)
      clear c5
      (first | rw [c5b0] | (simp only [i64_w, i32_w]; rw [c5b0]) | skip)
      have H' := Aside0.mk H
      clear H
      go_wp2
      go_meet
      case rel => exact ⟨_, (decide ((l1.length : Int) > 256)), (by first | rfl | (simp; done) | (simp [*]; done)), H', ⟨by first | omega | exact Nat.le_refl _⟩, by repeat (first | exact Drawn0.refl _ | apply Drawn0.step)⟩
  case rest =>
    clear HC4
    try clear c1
    try clear p2
    try clear c5
    try clear c5b0
    try clear c5b1
    obtain ⟨kq, x23_3, rfl, HA, HJ3, ⟨mc3, rfl⟩⟩ := hcut
    cases kq with
    | zero => exact absurd HA.out (by simp [num_Mean.j0])
    | succ kj3 =>
      have H := HA.out
      clear HA
      simp only [num_Mean.j0] at H
      by_cases c6 : x23_3 = true
      · subst c6
        have H1 : (some (0, 3)) = some (r1, r2) := by rw [if_pos rfl] at H; exact H
        clear H
        have H := H1
        clear H1
        simp only [Option.some.injEq, Prod.mk.injEq] at H
        obtain ⟨rfl, rfl⟩ := H
        go_wp2
        go_ret2
        exact ⟨by first | rfl | (simp; done) | (simp [*]; done), by repeat (first | exact Drawn0.refl _ | apply Drawn0.step)⟩
      · replace c6 := Bool.eq_false_iff.mpr c6
        subst c6
        have H1 : (if (l0.length : Int) = (l1.length : Int) then (num_Mean.l0 kj3 l0 l1 a2 l0 (l0.length : Int) 0) else (some (0, 2))) = some (r1, r2) := by rw [if_neg (show ¬ (false = true) by decide)] at H; exact H
        clear H
        have H := H1
        clear H1
        by_cases c7 : (l0.length : Int) = (l1.length : Int)
        · rw [if_pos c7] at H
          have c7b0 : ((l0.length : Int) == (l1.length : Int)) = true := beq_iff_eq.mpr c7
          have c7b1 : ((l0.length : Int) != (l1.length : Int)) = false := bne_eq_false_iff_eq.mpr c7
          have c7b2 : (l0.length == l1.length) = true := by first | simpa using c7 | (simp at c7 ⊢; omega)
          clear c7
          have H' := Aside0.mk H
          clear H
          go_wp2
          go_loopg [31] kj3 (fun kq v31 w' => ∃ (x31_2 : Int), v31 = .int .i64 x31_2 ∧ Aside0 (num_Mean.l0 kq l0 l1 a2 l0 (l0.length : Int) x31_2 = some (r1, r2)) ∧ Aside0 (kq ≤ kj3) ∧ Drawn0 w w')
          case atStart => exact ⟨(0), (by first | rfl | (simp; done) | (simp [*]; done)), H', ⟨Nat.le_refl _⟩, by repeat (first | exact Drawn0.refl _ | apply Drawn0.step)⟩
          case round =>
            clear H'
            try clear c1
            try clear p2
            try clear c3
            try clear c5
            try clear c5b0
            try clear c5b1
            try clear c6
            try clear c7
            try clear c7b0
            try clear c7b1
            try clear c7b2
            try clear p2
            obtain ⟨x31_2, rfl, HA, HK2, ⟨m2, rfl⟩⟩ := hrel
            cases gk with
            | zero => exact absurd HA.out (by simp [num_Mean.l0])
            | succ k2 =>
              have H := HA.out
              clear HA
              simp only [num_Mean.l0] at H
              by_cases c8 : x31_2 < (l0.length : Int)
              · rw [if_pos c8] at H
                have c8b0 : decide (x31_2 < (l0.length : Int)) = true := decide_eq_true c8
                clear c8
                by_cases c9 : 0 ≤ x31_2
                · rw [if_pos c9] at H
                  have c9b0 : decide (0 ≤ x31_2) = true := decide_eq_true c9
                  clear c9
                  by_cases c10 : x31_2 < (l0.length : Int)
                  · rw [if_pos c10] at H
                    have c10b0 : decide (x31_2 < (l0.length : Int)) = true := decide_eq_true c10
                    clear c10
                    by_cases c11 : (rd l0 x31_2) < (-16777216)
                    · rw [if_pos c11] at H
                      have c11b0 : decide ((rd l0 x31_2) < (-16777216)) = true := decide_eq_true c11
                      clear c11
                      simp only [Option.some.injEq, Prod.mk.injEq] at H
                      obtain ⟨rfl, rfl⟩ := H
                      have p1160 : 0 ≤ (x31_2 : Int) := of_decide_eq_true (by first | (with_reducible assumption) | assumption)
                      have q1160 : x31_2 < (l0.length : Int) := of_decide_eq_true (by first | (with_reducible assumption) | assumption)
                      obtain ⟨ad1160, e1160, hx1160_0⟩ := Kd.at_int HR0.out x31_2 p1160 q1160
                      cases e1160
                      replace p1160 := eq_true p1160
                      replace q1160 := eq_true q1160
                      go_wp2
                      go_ret2
                      exact ⟨by first | rfl | (simp; done) | (simp [*]; done), by repeat (first | exact Drawn0.refl _ | apply Drawn0.step)⟩
                    · rw [if_neg c11] at H
                      have c11b0 : decide ((rd l0 x31_2) < (-16777216)) = false := decide_eq_false c11
                      clear c11
                      by_cases c12 : (rd l0 x31_2) > 16777216
                      · rw [if_pos c12] at H
                        have c12b0 : decide (16777216 < (rd l0 x31_2)) = true := decide_eq_true c12
                        clear c12
                        simp only [Option.some.injEq, Prod.mk.injEq] at H
                        obtain ⟨rfl, rfl⟩ := H
                        have p1160 : 0 ≤ (x31_2 : Int) := of_decide_eq_true (by first | (with_reducible assumption) | assumption)
                        have q1160 : x31_2 < (l0.length : Int) := of_decide_eq_true (by first | (with_reducible assumption) | assumption)
                        obtain ⟨ad1160, e1160, hx1160_0⟩ := Kd.at_int HR0.out x31_2 p1160 q1160
                        cases e1160
                        replace p1160 := eq_true p1160
                        replace q1160 := eq_true q1160
                        go_wp2
                        go_ret2
                        exact ⟨by first | rfl | (simp; done) | (simp [*]; done), by repeat (first | exact Drawn0.refl _ | apply Drawn0.step)⟩
                      · rw [if_neg c12] at H
                        have c12b0 : decide (16777216 < (rd l0 x31_2)) = false := decide_eq_false c12
                        clear c12
                        have H' := Aside0.mk H
                        clear H
                        have p1160 : 0 ≤ (x31_2 : Int) := of_decide_eq_true (by first | (with_reducible assumption) | assumption)
                        have q1160 : x31_2 < (l0.length : Int) := of_decide_eq_true (by first | (with_reducible assumption) | assumption)
                        obtain ⟨ad1160, e1160, hx1160_0⟩ := Kd.at_int HR0.out x31_2 p1160 q1160
                        cases e1160
                        replace p1160 := eq_true p1160
                        replace q1160 := eq_true q1160
                        go_wp2
                        go_roundg k2
                        case measure => have := HJ3.out; have := HK2.out; omega
                        case rel => exact ⟨(wrap64 (x31_2 + 1)), (by first | rfl | (simp; done) | (simp [*]; done)), H', ⟨by have := HJ3.out; have := HK2.out; omega⟩, by repeat (first | exact Drawn0.refl _ | apply Drawn0.step)⟩
                  · rw [if_neg c10] at H
                    exact absurd H (by simp)
                · rw [if_neg c9] at H
                  exact absurd H (by simp)
              · rw [if_neg c8] at H
                have c8b0 : decide (x31_2 < (l0.length : Int)) = false := decide_eq_false c8
                clear c8
                have H' := Aside0.mk H
                clear H
                go_wp2
                go_loopg [10, 11, 44] k2 (fun kq v10 v11 v44 w' => ∃ (x10_3 : Int) (x11_3 : Int) (x44_3 : Int), v10 = .int .i64 x10_3 ∧ v11 = .int .i64 x11_3 ∧ v44 = .int .i64 x44_3 ∧ Aside0 (num_Mean.l1 kq l0 a2 x10_3 x11_3 l1 (l1.length : Int) x44_3 = some (r1, r2)) ∧ Aside0 (kq ≤ k2) ∧ Drawn0 w w')
                case atStart => exact ⟨(0), (0), (0), (by first | rfl | (simp; done) | (simp [*]; done)), (by first | rfl | (simp; done) | (simp [*]; done)), (by first | rfl | (simp; done) | (simp [*]; done)), H', ⟨Nat.le_refl _⟩, by repeat (first | exact Drawn0.refl _ | apply Drawn0.step)⟩
                case round =>
                  clear H'
                  try clear c1
                  try clear p1
                  try clear q1
                  try clear hx1
                  try clear p2
                  try clear c3
                  try clear c5
                  try clear c5b0
                  try clear c5b1
                  try clear c6
                  try clear p6
                  try clear c7
                  try clear c7b0
                  try clear c7b1
                  try clear c7b2
                  try clear c8
                  try clear c8b0
                  try clear c9
                  try clear c9b0
                  try clear c10
                  try clear c10b0
                  try clear c11
                  try clear c11b0
                  try clear p11
                  try clear q11
                  try clear hx11
                  try clear c12
                  try clear c12b0
                  try clear hx1160_0
                  try clear p1160
                  try clear p2
                  try clear q1160
                  obtain ⟨x10_3, x11_3, x44_3, rfl, rfl, rfl, HA, HK3, ⟨m3, rfl⟩⟩ := hrel
                  cases gk with
                  | zero => exact absurd HA.out (by simp [num_Mean.l1])
                  | succ k3 =>
                    have H := HA.out
                    clear HA
                    simp only [num_Mean.l1] at H
                    by_cases c13 : x44_3 < (l1.length : Int)
                    · rw [if_pos c13] at H
                      have c13b0 : decide (x44_3 < (l1.length : Int)) = true := decide_eq_true c13
                      clear c13
                      by_cases c14 : 0 ≤ x44_3
                      · rw [if_pos c14] at H
                        have c14b0 : decide (0 ≤ x44_3) = true := decide_eq_true c14
                        clear c14
                        by_cases c15 : x44_3 < (l1.length : Int)
                        · rw [if_pos c15] at H
                          have c15b0 : decide (x44_3 < (l1.length : Int)) = true := decide_eq_true c15
                          clear c15
                          by_cases c16 : (rd l1 x44_3) < 0
                          · rw [if_pos c16] at H
                            have c16b0 : decide ((rd l1 x44_3) < 0) = true := decide_eq_true c16
                            clear c16
                            simp only [Option.some.injEq, Prod.mk.injEq] at H
                            obtain ⟨rfl, rfl⟩ := H
                            have p1161 : 0 ≤ (x44_3 : Int) := of_decide_eq_true (by first | (with_reducible assumption) | assumption)
                            have q1161 : x44_3 < (l1.length : Int) := of_decide_eq_true (by first | (with_reducible assumption) | assumption)
                            obtain ⟨ad1161, e1161, hx1161_0⟩ := Kd.at_int HR1.out x44_3 p1161 q1161
                            cases e1161
                            replace p1161 := eq_true p1161
                            replace q1161 := eq_true q1161
                            go_wp2
                            go_ret2
                            exact ⟨by first | rfl | (simp; done) | (simp [*]; done), by repeat (first | exact Drawn0.refl _ | apply Drawn0.step)⟩
                          · rw [if_neg c16] at H
                            have c16b0 : decide ((rd l1 x44_3) < 0) = false := decide_eq_false c16
                            clear c16
                            by_cases c17 : (rd l1 x44_3) > 1073741824
                            · rw [if_pos c17] at H
                              have c17b0 : decide (1073741824 < (rd l1 x44_3)) = true := decide_eq_true c17
                              clear c17
                              simp only [Option.some.injEq, Prod.mk.injEq] at H
                              obtain ⟨rfl, rfl⟩ := H
                              have p1161 : 0 ≤ (x44_3 : Int) := of_decide_eq_true (by first | (with_reducible assumption) | assumption)
                              have q1161 : x44_3 < (l1.length : Int) := of_decide_eq_true (by first | (with_reducible assumption) | assumption)
                              obtain ⟨ad1161, e1161, hx1161_0⟩ := Kd.at_int HR1.out x44_3 p1161 q1161
                              cases e1161
                              replace p1161 := eq_true p1161
                              replace q1161 := eq_true q1161
                              go_wp2
                              go_ret2
                              exact ⟨by first | rfl | (simp; done) | (simp [*]; done), by repeat (first | exact Drawn0.refl _ | apply Drawn0.step)⟩
                            · rw [if_neg c17] at H
                              have c17b0 : decide (1073741824 < (rd l1 x44_3)) = false := decide_eq_false c17
                              clear c17
                              by_cases c18 : x44_3 < (l0.length : Int)
                              · rw [if_pos c18] at H
                                have c18b0 : decide (x44_3 < (l0.length : Int)) = true := decide_eq_true c18
                                clear c18
                                have H' := Aside0.mk H
                                clear H
                                have p1161 : 0 ≤ (x44_3 : Int) := of_decide_eq_true (by first | (with_reducible assumption) | assumption)
                                have q1161 : x44_3 < (l1.length : Int) := of_decide_eq_true (by first | (with_reducible assumption) | assumption)
                                obtain ⟨ad1161, e1161, hx1161_0⟩ := Kd.at_int HR1.out x44_3 p1161 q1161
                                cases e1161
                                replace p1161 := eq_true p1161
                                replace q1161 := eq_true q1161
                                have p1162 : 0 ≤ (x44_3 : Int) := of_decide_eq_true (by first | (with_reducible assumption) | assumption)
                                have q1162 : x44_3 < (l0.length : Int) := of_decide_eq_true (by first | (with_reducible assumption) | assumption)
                                obtain ⟨ad1162, e1162, hx1162_0⟩ := Kd.at_int HR0.out x44_3 p1162 q1162
                                cases e1162
                                replace p1162 := eq_true p1162
                                replace q1162 := eq_true q1162
                                go_wp2
                                go_roundg k3
                                case measure => have := HJ3.out; have := HK2.out; have := HK3.out; omega
                                case rel => exact ⟨(wrap64 (x10_3 + (wrap64 ((rd l0 x44_3) * (rd l1 x44_3))))), (wrap64 (x11_3 + (rd l1 x44_3))), (wrap64 (x44_3 + 1)), (by first | rfl | (simp; done) | (simp [*]; done)), (by first | rfl | (simp; done) | (simp [*]; done)), (by first | rfl | (simp; done) | (simp [*]; done)), H', ⟨by have := HJ3.out; have := HK2.out; have := HK3.out; omega⟩, by repeat (first | exact Drawn0.refl _ | apply Drawn0.step)⟩
                              · rw [if_neg c18] at H
                                exact absurd H (by simp)
                        · rw [if_neg c15] at H
                          exact absurd H (by simp)
                      · rw [if_neg c14] at H
                        exact absurd H (by simp)
                    · rw [if_neg c13] at H
                      have c13b0 : decide (x44_3 < (l1.length : Int)) = false := decide_eq_false c13
                      clear c13
                      replace H := Option.bind_eq_some_iff.mp H
                      obtain ⟨t1163, A190, H⟩ := H
                      replace H : (if t1163 = true then (if x11_3 = 0 then (some (0, 5)) else ((num_size.f x10_3).bind fun t1164 => ((num_rounded.f k3 (decide (x10_3 < 0)) 0 t1164 (IntKind.u64.wrap (x11_3)) a2).bind fun bt1165 => (some (bt1165.1, 0))))) else (some (0, 2))) = some (r1, r2) := H
                      have A19 := Aside0.mk A190
                      clear A190
                      by_cases c20 : t1163 = true
                      · subst c20
                        have H1 : (if x11_3 = 0 then (some (0, 5)) else ((num_size.f x10_3).bind fun t1164 => ((num_rounded.f k3 (decide (x10_3 < 0)) 0 t1164 (IntKind.u64.wrap (x11_3)) a2).bind fun bt1165 => (some (bt1165.1, 0))))) = some (r1, r2) := by rw [if_pos rfl] at H; exact H
                        clear H
                        have H := H1
                        clear H1
                        by_cases c21 : x11_3 = 0
                        · rw [if_pos c21] at H
                          have c21b0 : (x11_3 == 0) = true := beq_iff_eq.mpr c21
                          have c21b1 : (x11_3 != 0) = false := bne_eq_false_iff_eq.mpr c21
                          clear c21
                          simp only [Option.some.injEq, Prod.mk.injEq] at H
                          obtain ⟨rfl, rfl⟩ := H
                          go_wp2_with (first | ((with_reducible refine gate_callee (f := 85) rfl ?_); refine goesL_ (some 69) rfl rfl Tryd.func85 (by kernel_rfl) rfl #[.int .i64 a2] rfl qe_ ?_; (with_reducible refine (num_mode.calls a2 true _ A19.out).mono ?_); rintro e w' ⟨rfl, ⟨nd, rfl⟩⟩; refine ⟨_, rfl, ?_⟩))
                          go_ret2
                          exact ⟨by first | rfl | (simp; done) | (simp [*]; done), by repeat (first | exact Drawn0.refl _ | apply Drawn0.step)⟩
                        · rw [if_neg c21] at H
                          have c21b0 : (x11_3 == 0) = false := beq_eq_false_iff_ne.mpr c21
                          have c21b1 : (x11_3 != 0) = true := bne_iff_ne.mpr c21
                          replace H := Option.bind_eq_some_iff.mp H
                          obtain ⟨t1164, A220, H⟩ := H
                          replace H : ((num_rounded.f k3 (decide (x10_3 < 0)) 0 t1164 (IntKind.u64.wrap (x11_3)) a2).bind fun bt1165 => (some (bt1165.1, 0))) = some (r1, r2) := H
                          have A22 := Aside0.mk A220
                          clear A220
                          replace H := Option.bind_eq_some_iff.mp H
                          obtain ⟨⟨t1165, t1166⟩, A230, H⟩ := H
                          replace H : (some (t1165, 0)) = some (r1, r2) := H
                          have A23 := Aside0.mk A230
                          clear A230
                          simp only [Option.some.injEq, Prod.mk.injEq] at H
                          obtain ⟨rfl, rfl⟩ := H
                          go_wp2_with (first | ((with_reducible refine gate_callee (f := 85) rfl ?_); refine goesL_ (some 69) rfl rfl Tryd.func85 (by kernel_rfl) rfl #[.int .i64 a2] rfl qe_ ?_; (with_reducible refine (num_mode.calls a2 true _ A19.out).mono ?_); rintro e w' ⟨rfl, ⟨nd, rfl⟩⟩; refine ⟨_, rfl, ?_⟩) | ((with_reducible refine gate_callee (f := 78) rfl ?_); refine goesL_ (some 78) rfl rfl Tryd.func78 (by kernel_rfl) rfl #[.int .i64 x10_3] rfl qe_ ?_; (with_reducible refine (num_size.calls x10_3 t1164 _ A22.out).mono ?_); rintro e w' ⟨rfl, ⟨nd, rfl⟩⟩; refine ⟨_, rfl, ?_⟩) | ((with_reducible refine gate_callee (f := 86) rfl ?_); refine goesL_ (some 82) rfl rfl Tryd.func86 (by kernel_rfl) rfl #[.bool (decide (x10_3 < 0)), .int .u64 0, .int .u64 t1164, .int .u64 (IntKind.u64.wrap (x11_3)), .int .i64 a2] rfl qe_ ?_; (with_reducible refine (num_rounded.calls k3 (decide (x10_3 < 0)) 0 t1164 (IntKind.u64.wrap (x11_3)) a2 t1165 t1166 _ A23.out).mono ?_); rintro e w' ⟨rfl, ⟨nd, rfl⟩⟩; refine ⟨_, rfl, ?_⟩))
                          go_ret2
                          exact ⟨by first | rfl | (simp; done) | (simp [*]; done), by repeat (first | exact Drawn0.refl _ | apply Drawn0.step)⟩
                      · replace c20 := Bool.eq_false_iff.mpr c20
                        subst c20
                        have H1 : (some (0, 2)) = some (r1, r2) := by rw [if_neg (show ¬ (false = true) by decide)] at H; exact H
                        clear H
                        have H := H1
                        clear H1
                        simp only [Option.some.injEq, Prod.mk.injEq] at H
                        obtain ⟨rfl, rfl⟩ := H
                        go_wp2_with (first | ((with_reducible refine gate_callee (f := 85) rfl ?_); refine goesL_ (some 69) rfl rfl Tryd.func85 (by kernel_rfl) rfl #[.int .i64 a2] rfl qe_ ?_; (with_reducible refine (num_mode.calls a2 false _ A19.out).mono ?_); rintro e w' ⟨rfl, ⟨nd, rfl⟩⟩; refine ⟨_, rfl, ?_⟩))
                        go_ret2
                        exact ⟨by first | rfl | (simp; done) | (simp [*]; done), by repeat (first | exact Drawn0.refl _ | apply Drawn0.step)⟩
        · rw [if_neg c7] at H
          have c7b0 : ((l0.length : Int) == (l1.length : Int)) = false := beq_eq_false_iff_ne.mpr c7
          have c7b1 : ((l0.length : Int) != (l1.length : Int)) = true := bne_iff_ne.mpr c7
          have c7b2 : (l0.length == l1.length) = false := by first | simpa using c7 | (simp at c7 ⊢; omega)
          simp only [Option.some.injEq, Prod.mk.injEq] at H
          obtain ⟨rfl, rfl⟩ := H
          go_wp2
          go_ret2
          exact ⟨by first | rfl | (simp; done) | (simp [*]; done), by repeat (first | exact Drawn0.refl _ | apply Drawn0.step)⟩
mutual
def merinoref01_Mean.j0 : Nat → List Int → List Int → Int → Bool → Option (Int × Int)
  | 0, _, _, _, _ => none
  | k + 1, x0, x1, x2, x20 => if x20 = true then (some (0, 3)) else (if (x0.length : Int) = (x1.length : Int) then ((merinoref01_Mode.f x2).bind fun t1167 => (merinoref01_Mean.j1 k x0 x1 x2 (!t1167))) else (merinoref01_Mean.j1 k x0 x1 x2 true))
def merinoref01_Mean.j1 : Nat → List Int → List Int → Int → Bool → Option (Int × Int)
  | 0, _, _, _, _ => none
  | k + 1, x0, x1, x2, x30 => if x30 = true then (some (0, 2)) else (merinoref01_Mean.l0 k x0 x1 x2 0 0 false ([] : List Int))
def merinoref01_Mean.l0 : Nat → List Int → List Int → Int → Int → Int → Bool → List Int → Option (Int × Int)
  | 0, _, _, _, _, _, _, _ => none
  | k + 1, x0, x1, x2, x9, x10, x1169000, x1169001 => if x10 < (x0.length : Int) then (if 0 ≤ x10 then (if (rd x0 x10) < (-16777216) then (merinoref01_Mean.j3 k x0 x1 x2 x9 x10 true x1169000 x1169001) else (if (rd x0 x10) > 16777216 then (merinoref01_Mean.j3 k x0 x1 x2 x9 x10 true x1169000 x1169001) else (if x10 < (x1.length : Int) then (if (rd x1 x10) < 0 then (merinoref01_Mean.j3 k x0 x1 x2 x9 x10 true x1169000 x1169001) else (merinoref01_Mean.j3 k x0 x1 x2 x9 x10 (decide ((rd x1 x10) > 1073741824)) x1169000 x1169001)) else (none)))) else (none)) else (if x9 = 0 then (some (0, 5)) else ((merinoref01_Of.f k x9).bind fun bt1192 => ((merinoref01_Rounded.f k x1169000 x1169001 bt1192.1 bt1192.2 x2).bind fun bt1196 => ((merinoref01_Within.f k bt1196.1 bt1196.2 16777216).bind fun bt1200 => (some (bt1200.1, 0))))))
def merinoref01_Mean.j3 : Nat → List Int → List Int → Int → Int → Int → Bool → Bool → List Int → Option (Int × Int)
  | 0, _, _, _, _, _, _, _, _ => none
  | k + 1, x0, x1, x2, x9, x10, x63, x1169000, x1169001 => if x63 = true then (some (0, 2)) else (if 0 ≤ x10 then (if x10 < (x0.length : Int) then ((merinoref01_Of.f k (rd x0 x10)).bind fun bt1174 => (if x10 < (x1.length : Int) then ((merinoref01_Of.f k (rd x1 x10)).bind fun bt1179 => ((merinoref01_Times.f k bt1174.1 bt1174.2 bt1179.1 bt1179.2).bind fun bt1183 => ((merinoref01_Plus.f k x1169000 x1169001 bt1183.1 bt1183.2).bind fun bt1187 => (merinoref01_Mean.l0 k x0 x1 x2 (wrap64 (x9 + (rd x1 x10))) (wrap64 (x10 + 1)) bt1187.1 bt1187.2)))) else (none))) else (none)) else (none))
end
def merinoref01_Mean.f (k : Nat) (l0 : List Int) (l1 : List Int) (a2 : Int) : Option (Int × Int) := if (l0.length : Int) > 256 then (merinoref01_Mean.j0 k l0 l1 a2 true) else (merinoref01_Mean.j0 k l0 l1 a2 (decide ((l1.length : Int) > 256)))
theorem merinoref01_Mean.mono_l : ∀ k, (∀ y0 y1 y2 y3, LeO (merinoref01_Mean.j0 k y0 y1 y2 y3) (merinoref01_Mean.j0 (k + 1) y0 y1 y2 y3)) ∧ (∀ y0 y1 y2 y3, LeO (merinoref01_Mean.j1 k y0 y1 y2 y3) (merinoref01_Mean.j1 (k + 1) y0 y1 y2 y3)) ∧ (∀ y0 y1 y2 y3 y4 y5 y6, LeO (merinoref01_Mean.l0 k y0 y1 y2 y3 y4 y5 y6) (merinoref01_Mean.l0 (k + 1) y0 y1 y2 y3 y4 y5 y6)) ∧ (∀ y0 y1 y2 y3 y4 y5 y6 y7, LeO (merinoref01_Mean.j3 k y0 y1 y2 y3 y4 y5 y6 y7) (merinoref01_Mean.j3 (k + 1) y0 y1 y2 y3 y4 y5 y6 y7))
  | 0 => ⟨fun _ _ _ _ r h => by simp [merinoref01_Mean.j0] at h, fun _ _ _ _ r h => by simp [merinoref01_Mean.j1] at h, fun _ _ _ _ _ _ _ r h => by simp [merinoref01_Mean.l0] at h, fun _ _ _ _ _ _ _ _ r h => by simp [merinoref01_Mean.j3] at h⟩
  | k + 1 => by
    obtain ⟨ih0, ih1, ih2, ih3⟩ := merinoref01_Mean.mono_l k
    refine ⟨?_, ?_, ?_, ?_⟩
    · intro y0 y1 y2 y3
      unfold merinoref01_Mean.j0
      repeat' first
      | (with_reducible exact ih0 _ _ _ _)
      | (with_reducible exact ih1 _ _ _ _)
      | (with_reducible exact ih2 _ _ _ _ _ _ _)
      | (with_reducible exact ih3 _ _ _ _ _ _ _ _)
      | (with_reducible exact merinoref01_Of.mono _ _)
      | (with_reducible exact merinoref01_Plus.mono _ _ _ _ _)
      | (with_reducible exact merinoref01_Rounded.mono _ _ _ _ _ _)
      | (with_reducible exact merinoref01_Times.mono _ _ _ _ _)
      | (with_reducible exact merinoref01_Within.mono _ _ _ _)
      | (with_reducible exact LeO.refl _)
      | (with_reducible exact LeO.none _)
      | (with_reducible refine LeO.ite ?_ ?_)
      | (with_reducible refine LeO.bind ?_ (fun _ => ?_))
      | exact ih0 _ _ _ _
      | exact ih1 _ _ _ _
      | exact ih2 _ _ _ _ _ _ _
      | exact ih3 _ _ _ _ _ _ _ _
      | exact merinoref01_Of.mono _ _
      | exact merinoref01_Plus.mono _ _ _ _ _
      | exact merinoref01_Rounded.mono _ _ _ _ _ _
      | exact merinoref01_Times.mono _ _ _ _ _
      | exact merinoref01_Within.mono _ _ _ _
      | exact LeO.none _
      | refine LeO.ite ?_ ?_
      | refine LeO.bind ?_ (fun _ => ?_)
    · intro y0 y1 y2 y3
      unfold merinoref01_Mean.j1
      repeat' first
      | (with_reducible exact ih0 _ _ _ _)
      | (with_reducible exact ih1 _ _ _ _)
      | (with_reducible exact ih2 _ _ _ _ _ _ _)
      | (with_reducible exact ih3 _ _ _ _ _ _ _ _)
      | (with_reducible exact merinoref01_Of.mono _ _)
      | (with_reducible exact merinoref01_Plus.mono _ _ _ _ _)
      | (with_reducible exact merinoref01_Rounded.mono _ _ _ _ _ _)
      | (with_reducible exact merinoref01_Times.mono _ _ _ _ _)
      | (with_reducible exact merinoref01_Within.mono _ _ _ _)
      | (with_reducible exact LeO.refl _)
      | (with_reducible exact LeO.none _)
      | (with_reducible refine LeO.ite ?_ ?_)
      | (with_reducible refine LeO.bind ?_ (fun _ => ?_))
      | exact ih0 _ _ _ _
      | exact ih1 _ _ _ _
      | exact ih2 _ _ _ _ _ _ _
      | exact ih3 _ _ _ _ _ _ _ _
      | exact merinoref01_Of.mono _ _
      | exact merinoref01_Plus.mono _ _ _ _ _
      | exact merinoref01_Rounded.mono _ _ _ _ _ _
      | exact merinoref01_Times.mono _ _ _ _ _
      | exact merinoref01_Within.mono _ _ _ _
      | exact LeO.none _
      | refine LeO.ite ?_ ?_
      | refine LeO.bind ?_ (fun _ => ?_)
    · intro y0 y1 y2 y3 y4 y5 y6
      unfold merinoref01_Mean.l0
      repeat' first
      | (with_reducible exact ih0 _ _ _ _)
      | (with_reducible exact ih1 _ _ _ _)
      | (with_reducible exact ih2 _ _ _ _ _ _ _)
      | (with_reducible exact ih3 _ _ _ _ _ _ _ _)
      | (with_reducible exact merinoref01_Of.mono _ _)
      | (with_reducible exact merinoref01_Plus.mono _ _ _ _ _)
      | (with_reducible exact merinoref01_Rounded.mono _ _ _ _ _ _)
      | (with_reducible exact merinoref01_Times.mono _ _ _ _ _)
      | (with_reducible exact merinoref01_Within.mono _ _ _ _)
      | (with_reducible exact LeO.refl _)
      | (with_reducible exact LeO.none _)
      | (with_reducible refine LeO.ite ?_ ?_)
      | (with_reducible refine LeO.bind ?_ (fun _ => ?_))
      | exact ih0 _ _ _ _
      | exact ih1 _ _ _ _
      | exact ih2 _ _ _ _ _ _ _
      | exact ih3 _ _ _ _ _ _ _ _
      | exact merinoref01_Of.mono _ _
      | exact merinoref01_Plus.mono _ _ _ _ _
      | exact merinoref01_Rounded.mono _ _ _ _ _ _
      | exact merinoref01_Times.mono _ _ _ _ _
      | exact merinoref01_Within.mono _ _ _ _
      | exact LeO.none _
      | refine LeO.ite ?_ ?_
      | refine LeO.bind ?_ (fun _ => ?_)
    · intro y0 y1 y2 y3 y4 y5 y6 y7
      unfold merinoref01_Mean.j3
      repeat' first
      | (with_reducible exact ih0 _ _ _ _)
      | (with_reducible exact ih1 _ _ _ _)
      | (with_reducible exact ih2 _ _ _ _ _ _ _)
      | (with_reducible exact ih3 _ _ _ _ _ _ _ _)
      | (with_reducible exact merinoref01_Of.mono _ _)
      | (with_reducible exact merinoref01_Plus.mono _ _ _ _ _)
      | (with_reducible exact merinoref01_Rounded.mono _ _ _ _ _ _)
      | (with_reducible exact merinoref01_Times.mono _ _ _ _ _)
      | (with_reducible exact merinoref01_Within.mono _ _ _ _)
      | (with_reducible exact LeO.refl _)
      | (with_reducible exact LeO.none _)
      | (with_reducible refine LeO.ite ?_ ?_)
      | (with_reducible refine LeO.bind ?_ (fun _ => ?_))
      | exact ih0 _ _ _ _
      | exact ih1 _ _ _ _
      | exact ih2 _ _ _ _ _ _ _
      | exact ih3 _ _ _ _ _ _ _ _
      | exact merinoref01_Of.mono _ _
      | exact merinoref01_Plus.mono _ _ _ _ _
      | exact merinoref01_Rounded.mono _ _ _ _ _ _
      | exact merinoref01_Times.mono _ _ _ _ _
      | exact merinoref01_Within.mono _ _ _ _
      | exact LeO.none _
      | refine LeO.ite ?_ ?_
      | refine LeO.bind ?_ (fun _ => ?_)
theorem merinoref01_Mean.mono : ∀ a0 a1 a2 k, LeO (merinoref01_Mean.f k a0 a1 a2) (merinoref01_Mean.f (k + 1) a0 a1 a2) := by
  intro a0 a1 a2 k
  obtain ⟨ih0, ih1, ih2, ih3⟩ := merinoref01_Mean.mono_l k
  unfold merinoref01_Mean.f
  repeat' first
      | (with_reducible exact ih0 _ _ _ _)
      | (with_reducible exact ih1 _ _ _ _)
      | (with_reducible exact ih2 _ _ _ _ _ _ _)
      | (with_reducible exact ih3 _ _ _ _ _ _ _ _)
      | (with_reducible exact merinoref01_Of.mono _ _)
      | (with_reducible exact merinoref01_Plus.mono _ _ _ _ _)
      | (with_reducible exact merinoref01_Rounded.mono _ _ _ _ _ _)
      | (with_reducible exact merinoref01_Times.mono _ _ _ _ _)
      | (with_reducible exact merinoref01_Within.mono _ _ _ _)
      | (with_reducible exact LeO.refl _)
      | (with_reducible exact LeO.none _)
      | (with_reducible refine LeO.ite ?_ ?_)
      | (with_reducible refine LeO.bind ?_ (fun _ => ?_))
      | exact ih0 _ _ _ _
      | exact ih1 _ _ _ _
      | exact ih2 _ _ _ _ _ _ _
      | exact ih3 _ _ _ _ _ _ _ _
      | exact merinoref01_Of.mono _ _
      | exact merinoref01_Plus.mono _ _ _ _ _
      | exact merinoref01_Rounded.mono _ _ _ _ _ _
      | exact merinoref01_Times.mono _ _ _ _ _
      | exact merinoref01_Within.mono _ _ _ _
      | exact LeO.none _
      | refine LeO.ite ?_ ?_
      | refine LeO.bind ?_ (fun _ => ?_)
def merinoref01_Mean.T11 : Bool × List (List Nat × List Nat) := (true, [([], []), ([], []), ([], []), ([1, 2], [1, 2]), ([3], [3]), ([4], [4]), ([], []), ([], []), ([6, 7], [6, 7]), ([8], [8]), ([9, 5], [9]), ([5, 10, 10], [5, 10]), ([0, 11, 11], [0, 11]), ([12, 12, 0, 1, 2, 3, 4, 5, 6, 7, 8, 9, 10, 11, 12], [12])])
def merinoref01_Mean.B11 : List Nat := [0, 0, 0, 6, 14, 30, 0, 0, 192, 448, 1022, 2046, 4095, 8191]
theorem merinoref01_Mean.tab11 : rtab .any (opsOf Tryd.f57 11) = merinoref01_Mean.T11 := by kernel_rfl
theorem merinoref01_Mean.bits11 : waitsOk merinoref01_Mean.T11.2 merinoref01_Mean.B11 = true := by kernel_rfl
def merinoref01_Mean.T15 : Bool × List (List Nat × List Nat) := (true, [([], []), ([], []), ([1], [1]), ([], []), ([0, 2, 3, 2], [0, 2, 3]), ([4, 4], [4]), ([5], [5]), ([6], [6]), ([6], [6]), ([7, 5, 0, 1, 2, 3, 4, 5, 6, 7], [7]), ([8, 9, 0, 1, 2, 3, 4, 5, 6, 7, 8, 9], [8])])
def merinoref01_Mean.B15 : List Nat := [0, 0, 2, 0, 15, 31, 63, 127, 127, 255, 1023]
theorem merinoref01_Mean.tab15 : rtab .any (opsOf Tryd.f57 15) = merinoref01_Mean.T15 := by kernel_rfl
theorem merinoref01_Mean.bits15 : waitsOk merinoref01_Mean.T15.2 merinoref01_Mean.B15 = true := by kernel_rfl
set_option maxHeartbeats 8000000 in
set_option maxRecDepth 100000 in
theorem merinoref01_Mean.calls (k : Nat) (A0 : Option Addr) (c0 : Nat) (l0 : List Int) (A1 : Option Addr) (c1 : Nat) (l1 : List Int) (a2 : Int) (r1 : Int) (r2 : Int) (w : World) (hr0 : Kd.C (Kd.int .i64) w A0 l0.length l0) (hc0 : l0.length ≤ c0) (hr1 : Kd.C (Kd.int .i64) w A1 l1.length l1) (hc1 : l1.length ≤ c1) (h : merinoref01_Mean.f k l0 l1 a2 = some (r1, r2)) :
    Calls Tryd.prog 57 #[.slice A0 l0.length c0, .slice A1 l1.length c1, .int .i64 a2] w fun e w' => e = .returned (.tuple #[.int .i64 r1, .int .i64 r2]) ∧ Below w.heap.size w w' := by
  have hu31 := Tryd.underlying31
  have HR0 := Aside0.mk hr0
  have HC0 := Aside0.mk hc0
  clear hr0 hc0
  have HR1 := Aside0.mk hr1
  have HC1 := Aside0.mk hc1
  clear hr1 hc1
  have HB := Aside0.mk (Below.refl w.heap.size w)
  have H : (if (l0.length : Int) > 256 then (merinoref01_Mean.j0 k l0 l1 a2 true) else (merinoref01_Mean.j0 k l0 l1 a2 (decide ((l1.length : Int) > 256)))) = some (r1, r2) := h
  clear h
  have HC4 := Aside0.mk H
  clear H
  go_enter Tryd.func57, Tryd.ntmps57
  go_upto_region 1 with (fail)
  go_cut [20] (fun v20 wc => ∃ (kq : Nat) (x20_3 : Bool), v20 = .bool x20_3 ∧ Aside0 (merinoref01_Mean.j0 kq l0 l1 a2 x20_3 = some (r1, r2)) ∧ Aside0 (kq ≤ k) ∧ Aside0 (Below w.heap.size w wc))
  case first =>
    have H := HC4.out
    clear HC4
    by_cases c5 : (l0.length : Int) > 256
    · rw [if_pos c5] at H
      have c5b0 : decide (256 < (l0.length : Int)) = true := decide_eq_true c5
      have c5b1 : decide (256 < l0.length) = true := decide_eq_true (by omega)
      clear c5
      (first | rw [c5b0] | (simp only [i64_w, i32_w]; rw [c5b0]) | skip)
      have H' := Aside0.mk H
      clear H
      go_wp2
      go_meet
      case rel => exact ⟨_, (true), (by first | rfl | (simp; done) | (simp [*]; done)), H', ⟨by first | omega | exact Nat.le_refl _⟩, ⟨(q0_ HB.out)⟩⟩
    · rw [if_neg c5] at H
      have c5b0 : decide (256 < (l0.length : Int)) = false := decide_eq_false c5
      have c5b1 : decide (256 < l0.length) = false := decide_eq_false (by omega)
      clear c5
      (first | rw [c5b0] | (simp only [i64_w, i32_w]; rw [c5b0]) | skip)
      have H' := Aside0.mk H
      clear H
      go_wp2
      go_meet
      case rel => exact ⟨_, (decide ((l1.length : Int) > 256)), (by first | rfl | (simp; done) | (simp [*]; done)), H', ⟨by first | omega | exact Nat.le_refl _⟩, ⟨(q0_ HB.out)⟩⟩
  case rest =>
    clear HC4
    try clear c1
    try clear p2
    try clear c5
    try clear c5b0
    try clear c5b1
    obtain ⟨kq, x20_3, rfl, HA, HJ3, HB⟩ := hcut
    cases kq with
    | zero => exact absurd HA.out (by simp [merinoref01_Mean.j0])
    | succ kj3 =>
      have H := HA.out
      clear HA
      simp only [merinoref01_Mean.j0] at H
      by_cases c6 : x20_3 = true
      · subst c6
        have H1 : (some (0, 3)) = some (r1, r2) := by rw [if_pos rfl] at H; exact H
        clear H
        have H := H1
        clear H1
        simp only [Option.some.injEq, Prod.mk.injEq] at H
        obtain ⟨rfl, rfl⟩ := H
        go_wp2
        go_ret2
        exact ⟨by first | rfl | (simp [errW_none, errW_some] <;> rfl) | (simp [*, errW_none, errW_some] <;> rfl), (q0_ HB.out)⟩
      · replace c6 := Bool.eq_false_iff.mpr c6
        subst c6
        have H1 : (if (l0.length : Int) = (l1.length : Int) then ((merinoref01_Mode.f a2).bind fun t1167 => (merinoref01_Mean.j1 kj3 l0 l1 a2 (!t1167))) else (merinoref01_Mean.j1 kj3 l0 l1 a2 true)) = some (r1, r2) := by rw [if_neg (show ¬ (false = true) by decide)] at H; exact H
        clear H
        have H := H1
        clear H1
        have HC7 := Aside0.mk H
        clear H
        go_upto_region 3 with (fail)
        go_cut [30] (fun v30 wc => ∃ (kq : Nat) (x30_6 : Bool), v30 = .bool x30_6 ∧ Aside0 (merinoref01_Mean.j1 kq l0 l1 a2 x30_6 = some (r1, r2)) ∧ Aside0 (kq ≤ kj3) ∧ Aside0 (Below w.heap.size w wc))
        case first =>
          have H := HC7.out
          clear HC7
          by_cases c8 : (l0.length : Int) = (l1.length : Int)
          · rw [if_pos c8] at H
            have c8b0 : ((l0.length : Int) == (l1.length : Int)) = true := beq_iff_eq.mpr c8
            have c8b1 : ((l0.length : Int) != (l1.length : Int)) = false := bne_eq_false_iff_eq.mpr c8
            have c8b2 : (l0.length == l1.length) = true := by first | simpa using c8 | (simp at c8 ⊢; omega)
            clear c8
            (first | rw [c8b0] | (simp only [i64_w, i32_w]; rw [c8b0]) | skip)
            replace H := Option.bind_eq_some_iff.mp H
            obtain ⟨t1167, A90, H⟩ := H
            replace H : (merinoref01_Mean.j1 kj3 l0 l1 a2 (!t1167)) = some (r1, r2) := H
            have A9 := Aside0.mk A90
            clear A90
            have H' := Aside0.mk H
            clear H
            go_wp2_with (first | (go_at_call 101; (with_reducible refine (merinoref01_Mode.calls a2 t1167 _ A9.out).mono ?_); rintro e w' ⟨rfl, ⟨nd, rfl⟩⟩))
            go_meet
            case rel => exact ⟨_, (!t1167), (by first | rfl | (simp; done) | (simp [*]; done)), H', ⟨by have := HJ3.out; first | omega | exact Nat.le_refl _⟩, ⟨(q0_ HB.out)⟩⟩
          · rw [if_neg c8] at H
            have c8b0 : ((l0.length : Int) == (l1.length : Int)) = false := beq_eq_false_iff_ne.mpr c8
            have c8b1 : ((l0.length : Int) != (l1.length : Int)) = true := bne_iff_ne.mpr c8
            have c8b2 : (l0.length == l1.length) = false := by first | simpa using c8 | (simp at c8 ⊢; omega)
            (first | rw [c8b0] | (simp only [i64_w, i32_w]; rw [c8b0]) | skip)
            have H' := Aside0.mk H
            clear H
            go_wp2
            go_meet
            case rel => exact ⟨_, (true), (by first | rfl | (simp; done) | (simp [*]; done)), H', ⟨by have := HJ3.out; first | omega | exact Nat.le_refl _⟩, ⟨(q0_ HB.out)⟩⟩
        case rest =>
          clear HC7
          try clear c1
          try clear p2
          try clear c5
          try clear c5b0
          try clear c5b1
          try clear c6
          try clear c8
          try clear c8b0
          try clear c8b1
          try clear c8b2
          try clear p2
          obtain ⟨kq, x30_6, rfl, HA, HJ6, HB⟩ := hcut
          cases kq with
          | zero => exact absurd HA.out (by simp [merinoref01_Mean.j1])
          | succ kj6 =>
            have H := HA.out
            clear HA
            simp only [merinoref01_Mean.j1] at H
            by_cases c10 : x30_6 = true
            · subst c10
              have H1 : (some (0, 2)) = some (r1, r2) := by rw [if_pos rfl] at H; exact H
              clear H
              have H := H1
              clear H1
              simp only [Option.some.injEq, Prod.mk.injEq] at H
              obtain ⟨rfl, rfl⟩ := H
              go_wp2
              go_ret2
              exact ⟨by first | rfl | (simp [errW_none, errW_some] <;> rfl) | (simp [*, errW_none, errW_some] <;> rfl), (q0_ HB.out)⟩
            · replace c10 := Bool.eq_false_iff.mpr c10
              subst c10
              have H1 : (merinoref01_Mean.l0 kj6 l0 l1 a2 0 0 false ([] : List Int)) = some (r1, r2) := by rw [if_neg (show ¬ (false = true) by decide)] at H; exact H
              clear H
              have H := H1
              clear H1
              have H' := Aside0.mk H
              clear H
              go_wp2_with (first | ((with_reducible refine gate_dst (N := 8) rfl ?_); (try (refine gate_guard (by rfl) ?_; dsimp only)); refine box_event ?hg (N := 8) ?hd (cs := #[.bool false, .slice none 0 0]) (t := 31) ?hr ?_; (case hd => rfl); (case hg => rfl); (case hr => first | (go_simp; done) | (go_simp; rfl)); intro gb1168 hg w11 hbox hb; have n0_ := Aside0.mk (below_step (q0_ HB.out) hb); have n1_ := Aside0.mk (hbox); have n2_ := Aside0.mk ((by rw [hg]; exact (below_size (q0_ HB.out)) : w.heap.size ≤ gb1168)); have n3_ := Aside0.mk ((by rw [hg]; exact (below_size (q0_ HB.out)) : w.heap.size ≤ gb1168)); clear HB; have HB := n0_; have BK1168 := n1_; have GW1168 := n2_; have GE1168 := n3_; clear n0_ n1_ n2_ n3_; clear hb hbox hg; have hcz12_0 : w11.cell? ⟨gb1168, 0, none⟩ = some (.bool false) := (blk_cell BK1168.out 0).trans rfl; have hcz12_1 : w11.cell? ⟨gb1168, 1, none⟩ = some (.slice none 0 0) := (blk_cell BK1168.out 1).trans rfl; have hfz12_0 := blk_frozen BK1168.out 0; have hfz12_1 := blk_frozen BK1168.out 1))
              go_loopg [9, 10] kj6 (fun kq v9 v10 w' => ∃ (x9_3 : Int) (x10_3 : Int) (x1169000_3 : Bool) (x1169001_3 : List Int) (u1169001 : Value), v9 = .int .i64 x9_3 ∧ v10 = .int .i64 x10_3 ∧ Aside0 (merinoref01_Mean.l0 kq l0 l1 a2 x9_3 x10_3 x1169000_3 x1169001_3 = some (r1, r2)) ∧ Aside0 (kq ≤ kj6) ∧ Aside0 (Kd.R (Kd.int .i64) 3 w' w.heap.size (fun _ => True) u1169001 x1169001_3) ∧ Aside0 (w'.heap[gb1168]? = some (.cells #[.bool x1169000_3, u1169001] 31 (0, 0))) ∧ Aside0 (Below w.heap.size w w'))
              case atStart => exact ⟨(0), (0), (false), (([] : List Int)), (.slice none 0 0), (by first | rfl | (simp; done) | (simp [*]; done)), (by first | rfl | (simp; done) | (simp [*]; done)), H', ⟨Nat.le_refl _⟩, ⟨by first | exact Kd.R_nil _ _ _ _ _ | exact Kd.N_nil _ _ _ _ _ | exact Kd.V_nil _ _ _ _ _ | exact Kd.Q_nil _ _ _ _ _ | exact Kd.S_nil _ _ _ _ _⟩, ⟨by (with_reducible repeat (first | refine blk_drewN ?_ _ | refine blk_drew ?_ | refine blk_alloc ?_ _)); refine blk_put (cs := #[.bool false, .slice none 0 0]) ?_ 1 _ rfl; (with_reducible repeat (first | refine blk_drewN ?_ _ | refine blk_drew ?_ | refine blk_alloc ?_ _)); refine blk_put (cs := #[.bool false, .slice none 0 0]) ?_ 0 _ rfl; (with_reducible repeat (first | refine blk_drewN ?_ _ | refine blk_drew ?_ | refine blk_alloc ?_ _)); exact BK1168.out⟩, ⟨(q1_ HB.out GE1168.out)⟩⟩
              case round =>
                clear H'
                try clear c1
                try clear p2
                try clear c5
                try clear c5b0
                try clear c5b1
                try clear c6
                try clear c8
                try clear c8b0
                try clear c8b1
                try clear c8b2
                try clear c10
                try clear hcz12_0
                try clear hcz12_1
                try clear hfz12_0
                try clear hfz12_1
                try clear p2
                obtain ⟨x9_3, x10_3, x1169000_3, x1169001_3, u1169001, rfl, rfl, HA, HK3, HO_1169001, BK1168, HB⟩ := hrel
                cases gk with
                | zero => exact absurd HA.out (by simp [merinoref01_Mean.l0])
                | succ k3 =>
                  have H := HA.out
                  clear HA
                  simp only [merinoref01_Mean.l0] at H
                  by_cases c13 : x10_3 < (l0.length : Int)
                  · rw [if_pos c13] at H
                    have c13b0 : decide (x10_3 < (l0.length : Int)) = true := decide_eq_true c13
                    clear c13
                    have HC14 := Aside0.mk H
                    clear H
                    go_upto_region 9 with (fail)
                    go_cut [63] (fun v63 wc => ∃ (kq : Nat) (x63_13 : Bool), v63 = .bool x63_13 ∧ Aside0 (merinoref01_Mean.j3 kq l0 l1 a2 x9_3 x10_3 x63_13 x1169000_3 x1169001_3 = some (r1, r2)) ∧ Aside0 (kq ≤ k3) ∧ Aside0 (Kd.R (Kd.int .i64) 3 wc w.heap.size (fun _ => True) u1169001 x1169001_3) ∧ Aside0 (wc.heap[gb1168]? = some (.cells #[.bool x1169000_3, u1169001] 31 (0, 0))) ∧ Aside0 (Below w.heap.size w wc))
                    case first =>
                      have H := HC14.out
                      clear HC14
                      by_cases c15 : 0 ≤ x10_3
                      · rw [if_pos c15] at H
                        have c15b0 : decide (0 ≤ x10_3) = true := decide_eq_true c15
                        clear c15
                        (first | rw [c15b0] | (simp only [i64_w, i32_w]; rw [c15b0]) | skip)
                        by_cases c16 : (rd l0 x10_3) < (-16777216)
                        · rw [if_pos c16] at H
                          have c16b0 : decide ((rd l0 x10_3) < (-16777216)) = true := decide_eq_true c16
                          clear c16
                          have H' := Aside0.mk H
                          clear H
                          have p1169 : 0 ≤ (x10_3 : Int) := of_decide_eq_true (by first | (with_reducible assumption) | assumption)
                          have q1169 : x10_3 < (l0.length : Int) := of_decide_eq_true (by first | (with_reducible assumption) | assumption)
                          obtain ⟨ad1169, e1169, hx1169_0⟩ := Kd.at_int HR0.out x10_3 p1169 q1169
                          cases e1169
                          replace hx1169_0 := (HB.out.cell (World.block_lt_of_cell? w _ hx1169_0)).trans hx1169_0
                          replace p1169 := eq_true p1169
                          replace q1169 := eq_true q1169
                          go_wp2
                          go_meet
                          case rel => exact ⟨_, (true), (by first | rfl | (simp; done) | (simp [*]; done)), H', ⟨by have := HJ3.out; have := HJ6.out; have := HK3.out; first | omega | exact Nat.le_refl _⟩, ⟨by (with_reducible repeat (first | apply Kd.R_alloc | apply Kd.R_drewN | apply Kd.R_drew)); exact HO_1169001.out⟩, ⟨by (with_reducible repeat (first | refine blk_drewN ?_ _ | refine blk_drew ?_ | refine blk_alloc ?_ _)); exact BK1168.out⟩, ⟨(q1_ HB.out GE1168.out)⟩⟩
                        · rw [if_neg c16] at H
                          have c16b0 : decide ((rd l0 x10_3) < (-16777216)) = false := decide_eq_false c16
                          clear c16
                          by_cases c17 : (rd l0 x10_3) > 16777216
                          · rw [if_pos c17] at H
                            have c17b0 : decide (16777216 < (rd l0 x10_3)) = true := decide_eq_true c17
                            clear c17
                            have H' := Aside0.mk H
                            clear H
                            have p1169 : 0 ≤ (x10_3 : Int) := of_decide_eq_true (by first | (with_reducible assumption) | assumption)
                            have q1169 : x10_3 < (l0.length : Int) := of_decide_eq_true (by first | (with_reducible assumption) | assumption)
                            obtain ⟨ad1169, e1169, hx1169_0⟩ := Kd.at_int HR0.out x10_3 p1169 q1169
                            cases e1169
                            replace hx1169_0 := (HB.out.cell (World.block_lt_of_cell? w _ hx1169_0)).trans hx1169_0
                            replace p1169 := eq_true p1169
                            replace q1169 := eq_true q1169
                            have p1170 : 0 ≤ (x10_3 : Int) := of_decide_eq_true (by first | (with_reducible assumption) | assumption)
                            have q1170 : x10_3 < (l0.length : Int) := of_decide_eq_true (by first | (with_reducible assumption) | assumption)
                            obtain ⟨ad1170, e1170, hx1170_0⟩ := Kd.at_int HR0.out x10_3 p1170 q1170
                            obtain rfl : ad1169 = ad1170 := (by injection e1170)
                            replace hx1170_0 := (HB.out.cell (World.block_lt_of_cell? w _ hx1170_0)).trans hx1170_0
                            replace p1170 := eq_true p1170
                            replace q1170 := eq_true q1170
                            go_wp2
                            go_meet
                            case rel => exact ⟨_, (true), (by first | rfl | (simp; done) | (simp [*]; done)), H', ⟨by have := HJ3.out; have := HJ6.out; have := HK3.out; first | omega | exact Nat.le_refl _⟩, ⟨by (with_reducible repeat (first | apply Kd.R_alloc | apply Kd.R_drewN | apply Kd.R_drew)); exact HO_1169001.out⟩, ⟨by (with_reducible repeat (first | refine blk_drewN ?_ _ | refine blk_drew ?_ | refine blk_alloc ?_ _)); exact BK1168.out⟩, ⟨(q1_ HB.out GE1168.out)⟩⟩
                          · rw [if_neg c17] at H
                            have c17b0 : decide (16777216 < (rd l0 x10_3)) = false := decide_eq_false c17
                            clear c17
                            by_cases c18 : x10_3 < (l1.length : Int)
                            · rw [if_pos c18] at H
                              have c18b0 : decide (x10_3 < (l1.length : Int)) = true := decide_eq_true c18
                              clear c18
                              by_cases c19 : (rd l1 x10_3) < 0
                              · rw [if_pos c19] at H
                                have c19b0 : decide ((rd l1 x10_3) < 0) = true := decide_eq_true c19
                                clear c19
                                have H' := Aside0.mk H
                                clear H
                                have p1169 : 0 ≤ (x10_3 : Int) := of_decide_eq_true (by first | (with_reducible assumption) | assumption)
                                have q1169 : x10_3 < (l0.length : Int) := of_decide_eq_true (by first | (with_reducible assumption) | assumption)
                                obtain ⟨ad1169, e1169, hx1169_0⟩ := Kd.at_int HR0.out x10_3 p1169 q1169
                                cases e1169
                                replace hx1169_0 := (HB.out.cell (World.block_lt_of_cell? w _ hx1169_0)).trans hx1169_0
                                replace p1169 := eq_true p1169
                                replace q1169 := eq_true q1169
                                have p1170 : 0 ≤ (x10_3 : Int) := of_decide_eq_true (by first | (with_reducible assumption) | assumption)
                                have q1170 : x10_3 < (l0.length : Int) := of_decide_eq_true (by first | (with_reducible assumption) | assumption)
                                obtain ⟨ad1170, e1170, hx1170_0⟩ := Kd.at_int HR0.out x10_3 p1170 q1170
                                obtain rfl : ad1169 = ad1170 := (by injection e1170)
                                replace hx1170_0 := (HB.out.cell (World.block_lt_of_cell? w _ hx1170_0)).trans hx1170_0
                                replace p1170 := eq_true p1170
                                replace q1170 := eq_true q1170
                                have p1171 : 0 ≤ (x10_3 : Int) := of_decide_eq_true (by first | (with_reducible assumption) | assumption)
                                have q1171 : x10_3 < (l1.length : Int) := of_decide_eq_true (by first | (with_reducible assumption) | assumption)
                                obtain ⟨ad1171, e1171, hx1171_0⟩ := Kd.at_int HR1.out x10_3 p1171 q1171
                                cases e1171
                                replace hx1171_0 := (HB.out.cell (World.block_lt_of_cell? w _ hx1171_0)).trans hx1171_0
                                replace p1171 := eq_true p1171
                                replace q1171 := eq_true q1171
                                go_wp2
                                go_meet
                                case rel => exact ⟨_, (true), (by first | rfl | (simp; done) | (simp [*]; done)), H', ⟨by have := HJ3.out; have := HJ6.out; have := HK3.out; first | omega | exact Nat.le_refl _⟩, ⟨by (with_reducible repeat (first | apply Kd.R_alloc | apply Kd.R_drewN | apply Kd.R_drew)); exact HO_1169001.out⟩, ⟨by (with_reducible repeat (first | refine blk_drewN ?_ _ | refine blk_drew ?_ | refine blk_alloc ?_ _)); exact BK1168.out⟩, ⟨(q1_ HB.out GE1168.out)⟩⟩
                              · rw [if_neg c19] at H
                                have c19b0 : decide ((rd l1 x10_3) < 0) = false := decide_eq_false c19
                                clear c19
                                have H' := Aside0.mk H
                                clear H
                                have p1169 : 0 ≤ (x10_3 : Int) := of_decide_eq_true (by first | (with_reducible assumption) | assumption)
                                have q1169 : x10_3 < (l0.length : Int) := of_decide_eq_true (by first | (with_reducible assumption) | assumption)
                                obtain ⟨ad1169, e1169, hx1169_0⟩ := Kd.at_int HR0.out x10_3 p1169 q1169
                                cases e1169
                                replace hx1169_0 := (HB.out.cell (World.block_lt_of_cell? w _ hx1169_0)).trans hx1169_0
                                replace p1169 := eq_true p1169
                                replace q1169 := eq_true q1169
                                have p1170 : 0 ≤ (x10_3 : Int) := of_decide_eq_true (by first | (with_reducible assumption) | assumption)
                                have q1170 : x10_3 < (l0.length : Int) := of_decide_eq_true (by first | (with_reducible assumption) | assumption)
                                obtain ⟨ad1170, e1170, hx1170_0⟩ := Kd.at_int HR0.out x10_3 p1170 q1170
                                obtain rfl : ad1169 = ad1170 := (by injection e1170)
                                replace hx1170_0 := (HB.out.cell (World.block_lt_of_cell? w _ hx1170_0)).trans hx1170_0
                                replace p1170 := eq_true p1170
                                replace q1170 := eq_true q1170
                                have p1171 : 0 ≤ (x10_3 : Int) := of_decide_eq_true (by first | (with_reducible assumption) | assumption)
                                have q1171 : x10_3 < (l1.length : Int) := of_decide_eq_true (by first | (with_reducible assumption) | assumption)
                                obtain ⟨ad1171, e1171, hx1171_0⟩ := Kd.at_int HR1.out x10_3 p1171 q1171
                                cases e1171
                                replace hx1171_0 := (HB.out.cell (World.block_lt_of_cell? w _ hx1171_0)).trans hx1171_0
                                replace p1171 := eq_true p1171
                                replace q1171 := eq_true q1171
                                have p1172 : 0 ≤ (x10_3 : Int) := of_decide_eq_true (by first | (with_reducible assumption) | assumption)
                                have q1172 : x10_3 < (l1.length : Int) := of_decide_eq_true (by first | (with_reducible assumption) | assumption)
                                obtain ⟨ad1172, e1172, hx1172_0⟩ := Kd.at_int HR1.out x10_3 p1172 q1172
                                obtain rfl : ad1171 = ad1172 := (by injection e1172)
                                replace hx1172_0 := (HB.out.cell (World.block_lt_of_cell? w _ hx1172_0)).trans hx1172_0
                                replace p1172 := eq_true p1172
                                replace q1172 := eq_true q1172
                                go_wp2
                                go_meet
                                case rel => exact ⟨_, (decide ((rd l1 x10_3) > 1073741824)), (by first | rfl | (simp; done) | (simp [*]; done)), H', ⟨by have := HJ3.out; have := HJ6.out; have := HK3.out; first | omega | exact Nat.le_refl _⟩, ⟨by (with_reducible repeat (first | apply Kd.R_alloc | apply Kd.R_drewN | apply Kd.R_drew)); exact HO_1169001.out⟩, ⟨by (with_reducible repeat (first | refine blk_drewN ?_ _ | refine blk_drew ?_ | refine blk_alloc ?_ _)); exact BK1168.out⟩, ⟨(q1_ HB.out GE1168.out)⟩⟩
                            · rw [if_neg c18] at H
                              exact absurd H (by simp)
                      · rw [if_neg c15] at H
                        exact absurd H (by simp)
                    case rest =>
                      clear HC14
                      try clear c1
                      try clear p1
                      try clear q1
                      try clear hx1
                      try clear p2
                      try clear c5
                      try clear c5b0
                      try clear c5b1
                      try clear c6
                      try clear c8
                      try clear c8b0
                      try clear c8b1
                      try clear c8b2
                      try clear c10
                      try clear p11
                      try clear q11
                      try clear hx11
                      try clear c13
                      try clear c13b0
                      try clear c15
                      try clear c15b0
                      try clear c16
                      try clear c16b0
                      try clear c17
                      try clear c17b0
                      try clear c18
                      try clear c18b0
                      try clear c19
                      try clear c19b0
                      try clear hcz12_0
                      try clear hcz12_1
                      try clear hfz12_0
                      try clear hfz12_1
                      try clear hx1169_0
                      try clear hx1170_0
                      try clear hx1171_0
                      try clear hx1172_0
                      try clear p1169
                      try clear p1170
                      try clear p1171
                      try clear p1172
                      try clear p2
                      try clear q1169
                      try clear q1170
                      try clear q1171
                      try clear q1172
                      obtain ⟨kq, x63_13, rfl, HA, HJ13, HO_1169001, BK1168, HB⟩ := hcut
                      cases kq with
                      | zero => exact absurd HA.out (by simp [merinoref01_Mean.j3])
                      | succ kj13 =>
                        have H := HA.out
                        clear HA
                        simp only [merinoref01_Mean.j3] at H
                        by_cases c20 : x63_13 = true
                        · subst c20
                          have H1 : (some (0, 2)) = some (r1, r2) := by rw [if_pos rfl] at H; exact H
                          clear H
                          have H := H1
                          clear H1
                          simp only [Option.some.injEq, Prod.mk.injEq] at H
                          obtain ⟨rfl, rfl⟩ := H
                          go_wp2
                          go_ret2
                          exact ⟨by first | rfl | (simp [errW_none, errW_some] <;> rfl) | (simp [*, errW_none, errW_some] <;> rfl), (q1_ HB.out GE1168.out)⟩
                        · replace c20 := Bool.eq_false_iff.mpr c20
                          subst c20
                          have H1 : (if 0 ≤ x10_3 then (if x10_3 < (l0.length : Int) then ((merinoref01_Of.f kj13 (rd l0 x10_3)).bind fun bt1174 => (if x10_3 < (l1.length : Int) then ((merinoref01_Of.f kj13 (rd l1 x10_3)).bind fun bt1179 => ((merinoref01_Times.f kj13 bt1174.1 bt1174.2 bt1179.1 bt1179.2).bind fun bt1183 => ((merinoref01_Plus.f kj13 x1169000_3 x1169001_3 bt1183.1 bt1183.2).bind fun bt1187 => (merinoref01_Mean.l0 kj13 l0 l1 a2 (wrap64 (x9_3 + (rd l1 x10_3))) (wrap64 (x10_3 + 1)) bt1187.1 bt1187.2)))) else (none))) else (none)) else (none)) = some (r1, r2) := by rw [if_neg (show ¬ (false = true) by decide)] at H; exact H
                          clear H
                          have H := H1
                          clear H1
                          by_cases c21 : 0 ≤ x10_3
                          · rw [if_pos c21] at H
                            have c21b0 : decide (0 ≤ x10_3) = true := decide_eq_true c21
                            clear c21
                            by_cases c22 : x10_3 < (l0.length : Int)
                            · rw [if_pos c22] at H
                              have c22b0 : decide (x10_3 < (l0.length : Int)) = true := decide_eq_true c22
                              clear c22
                              replace H := Option.bind_eq_some_iff.mp H
                              obtain ⟨⟨t1174, t1175⟩, A230, H⟩ := H
                              replace H : (if x10_3 < (l1.length : Int) then ((merinoref01_Of.f kj13 (rd l1 x10_3)).bind fun bt1179 => ((merinoref01_Times.f kj13 t1174 t1175 bt1179.1 bt1179.2).bind fun bt1183 => ((merinoref01_Plus.f kj13 x1169000_3 x1169001_3 bt1183.1 bt1183.2).bind fun bt1187 => (merinoref01_Mean.l0 kj13 l0 l1 a2 (wrap64 (x9_3 + (rd l1 x10_3))) (wrap64 (x10_3 + 1)) bt1187.1 bt1187.2)))) else (none)) = some (r1, r2) := H
                              have A23 := Aside0.mk A230
                              clear A230
                              by_cases c24 : x10_3 < (l1.length : Int)
                              · rw [if_pos c24] at H
                                have c24b0 : decide (x10_3 < (l1.length : Int)) = true := decide_eq_true c24
                                clear c24
                                replace H := Option.bind_eq_some_iff.mp H
                                obtain ⟨⟨t1179, t1180⟩, A250, H⟩ := H
                                replace H : ((merinoref01_Times.f kj13 t1174 t1175 t1179 t1180).bind fun bt1183 => ((merinoref01_Plus.f kj13 x1169000_3 x1169001_3 bt1183.1 bt1183.2).bind fun bt1187 => (merinoref01_Mean.l0 kj13 l0 l1 a2 (wrap64 (x9_3 + (rd l1 x10_3))) (wrap64 (x10_3 + 1)) bt1187.1 bt1187.2))) = some (r1, r2) := H
                                have A25 := Aside0.mk A250
                                clear A250
                                replace H := Option.bind_eq_some_iff.mp H
                                obtain ⟨⟨t1183, t1184⟩, A260, H⟩ := H
                                replace H : ((merinoref01_Plus.f kj13 x1169000_3 x1169001_3 t1183 t1184).bind fun bt1187 => (merinoref01_Mean.l0 kj13 l0 l1 a2 (wrap64 (x9_3 + (rd l1 x10_3))) (wrap64 (x10_3 + 1)) bt1187.1 bt1187.2)) = some (r1, r2) := H
                                have A26 := Aside0.mk A260
                                clear A260
                                replace H := Option.bind_eq_some_iff.mp H
                                obtain ⟨⟨t1187, t1188⟩, A270, H⟩ := H
                                replace H : (merinoref01_Mean.l0 kj13 l0 l1 a2 (wrap64 (x9_3 + (rd l1 x10_3))) (wrap64 (x10_3 + 1)) t1187 t1188) = some (r1, r2) := H
                                have A27 := Aside0.mk A270
                                clear A270
                                have H' := Aside0.mk H
                                clear H
                                try go_wp2
                                have n0_ := Aside0.mk (Kd.R_drew HO_1169001.out)
                                have n1_ := Aside0.mk (blk_drew BK1168.out)
                                have n2_ := Aside0.mk (below_drew1 HB.out)
                                clear HO_1169001
                                clear BK1168
                                clear HB
                                have HO_1169001 := n0_
                                have BK1168 := n1_
                                have HB := n2_
                                clear n0_ n1_ n2_
                                have p1173 : 0 ≤ (x10_3 : Int) := of_decide_eq_true (by first | (with_reducible assumption) | assumption)
                                have q1173 : x10_3 < (l0.length : Int) := of_decide_eq_true (by first | (with_reducible assumption) | assumption)
                                obtain ⟨ad1173, e1173, hx1173_0⟩ := Kd.at_int HR0.out x10_3 p1173 q1173
                                have hw1173_0 := hx1173_0
                                cases e1173
                                replace hx1173_0 := (HB.out.cell (World.block_lt_of_cell? w _ hx1173_0)).trans hx1173_0
                                replace p1173 := eq_true p1173
                                replace q1173 := eq_true q1173
                                have p1178 : 0 ≤ (x10_3 : Int) := of_decide_eq_true (by first | (with_reducible assumption) | assumption)
                                have q1178 : x10_3 < (l1.length : Int) := of_decide_eq_true (by first | (with_reducible assumption) | assumption)
                                obtain ⟨ad1178, e1178, hx1178_0⟩ := Kd.at_int HR1.out x10_3 p1178 q1178
                                have hw1178_0 := hx1178_0
                                cases e1178
                                replace hx1178_0 := (HB.out.cell (World.block_lt_of_cell? w _ hx1178_0)).trans hx1178_0
                                replace p1178 := eq_true p1178
                                replace q1178 := eq_true q1178
                                refine start_ (n := 14) (S := fun w' => w'.cell? ⟨gb1168, 0, none⟩ = some (.bool x1169000_3) ∧ w'.cell? ⟨gb1168, 1, none⟩ = some (u1169001) ∧ w'.cell? (ad1173.add (x10_3).toNat) = some (.int .i64 (rd l0 x10_3)) ∧ w'.cell? (ad1178.add (x10_3).toNat) = some (.int .i64 (rd l1 x10_3))) (ds := [13]) #[false, false, false, false, false, false, false, false, false, false, false, false, false, false] (by kernel_rfl) rfl rfl ⟨(blk_cell BK1168.out 0).trans rfl, (blk_cell BK1168.out 1).trans rfl, ((HB.out.cell (World.block_lt_of_cell? w _ hw1173_0)).trans hw1173_0), ((HB.out.cell (World.block_lt_of_cell? w _ hw1178_0)).trans hw1178_0)⟩ (fun hHeld => ?_); refine with_tabW merinoref01_Mean.tab11 merinoref01_Mean.bits11 (fun HT_ HW_ => ?_)
                                generalize wc.drew = w28 at HO_1169001 BK1168 HB hx1173_0 hx1178_0 hHeld ⊢
                                refine pure_ (i := 1) (N := some 65) (v := ?_) (a' := ?_) #[false, true, false, false, false, false, false, false, false, false, false, false, false, false] rfl rfl (any_of HT_.out (by kernel_rfl)) (fun _ _ _ h => h) (Or.inl ⟨by rfl, ?_⟩) ?_ ?_
                                rotate_left
                                · intro w'
                                  go_simp
                                  with_reducible rfl
                                rotate_left
                                · simp only [Act.put, List.setIfInBounds_toArray, List.set_cons_zero, List.set_cons_succ, i64_w, i32_w]
                                  rfl
                                refine pure_ (i := 2) (N := some 66) (v := ?_) (a' := ?_) #[false, true, true, false, false, false, false, false, false, false, false, false, false, false] rfl rfl (any_of HT_.out (by kernel_rfl)) (fun _ _ _ h => h) (Or.inl ⟨by rfl, ?_⟩) ?_ ?_
                                rotate_left
                                · intro w'
                                  go_simp
                                  with_reducible rfl
                                rotate_left
                                · simp only [Act.put, List.setIfInBounds_toArray, List.set_cons_zero, List.set_cons_succ, i64_w, i32_w]
                                  rfl
                                refine pure_ (i := 3) (N := some 67) (v := ?_) (a' := ?_) #[false, true, true, true, false, false, false, false, false, false, false, false, false, false] rfl rfl (any_of HT_.out (by kernel_rfl)) (fun _ _ _ h => h) (Or.inl ⟨by rfl, ?_⟩) ?_ ?_
                                rotate_left
                                · intro w'
                                  go_simp
                                  with_reducible rfl
                                rotate_left
                                · simp only [Act.put, List.setIfInBounds_toArray, List.set_cons_zero, List.set_cons_succ, i64_w, i32_w]
                                  rfl
                                refine pure_ (i := 6) (N := some 70) (v := ?_) (a' := ?_) #[false, true, true, true, false, false, true, false, false, false, false, false, false, false] rfl rfl (any_of HT_.out (by kernel_rfl)) (fun _ _ _ h => h) (Or.inl ⟨by rfl, ?_⟩) ?_ ?_
                                rotate_left
                                · intro w'
                                  go_simp
                                  with_reducible rfl
                                rotate_left
                                · simp only [Act.put, List.setIfInBounds_toArray, List.set_cons_zero, List.set_cons_succ, i64_w, i32_w]
                                  rfl
                                refine pure_ (i := 7) (N := some 71) (v := ?_) (a' := ?_) #[false, true, true, true, false, false, true, true, false, false, false, false, false, false] rfl rfl (any_of HT_.out (by kernel_rfl)) (fun _ _ _ h => h) (Or.inl ⟨by rfl, ?_⟩) ?_ ?_
                                rotate_left
                                · intro w'
                                  go_simp
                                  with_reducible rfl
                                rotate_left
                                · simp only [Act.put, List.setIfInBounds_toArray, List.set_cons_zero, List.set_cons_succ, i64_w, i32_w]
                                  rfl
                                refine pure_ (i := 8) (N := some 72) (v := ?_) (a' := ?_) #[false, true, true, true, false, false, true, true, true, false, false, false, false, false] rfl rfl (any_of HT_.out (by kernel_rfl)) (fun _ _ _ h => h) (Or.inl ⟨by rfl, ?_⟩) ?_ ?_
                                rotate_left
                                · intro w'
                                  go_simp
                                  with_reducible rfl
                                rotate_left
                                · simp only [Act.put, List.setIfInBounds_toArray, List.set_cons_zero, List.set_cons_succ, i64_w, i32_w]
                                  rfl
                                refine take_ (i := 0) (N := some 64) (v := ?_) (a' := ?_) #[true, true, true, true, false, false, true, true, true, false, false, false, false, false] rfl rfl (take_ofW HT_.out HW_.out (by kernel_rfl)) (fun _ _ _ h => h) (Or.inl ⟨by rfl, ?_⟩) hHeld ?_ ?_
                                rotate_left
                                · rintro w' ⟨s0, s1, s2, s3⟩
                                  go_simp
                                  with_reducible rfl
                                rotate_left
                                · simp only [Act.put, List.setIfInBounds_toArray, List.set_cons_zero, List.set_cons_succ, i64_w, i32_w]
                                  rfl
                                refine take_ (i := 4) (N := some 68) (v := ?_) (a' := ?_) #[true, true, true, true, true, false, true, true, true, false, false, false, false, false] rfl rfl (take_ofW HT_.out HW_.out (by kernel_rfl)) (fun _ _ _ h => h) (Or.inl ⟨by rfl, ?_⟩) hHeld ?_ ?_
                                rotate_left
                                · rintro w' ⟨s0, s1, s2, s3⟩
                                  go_simp
                                  with_reducible rfl
                                rotate_left
                                · simp only [Act.put, List.setIfInBounds_toArray, List.set_cons_zero, List.set_cons_succ, i64_w, i32_w]
                                  rfl
                                refine take_ (i := 9) (N := some 73) (v := ?_) (a' := ?_) #[true, true, true, true, true, false, true, true, true, true, false, false, false, false] rfl rfl (take_ofW HT_.out HW_.out (by kernel_rfl)) (fun _ _ _ h => h) (Or.inl ⟨by rfl, ?_⟩) hHeld ?_ ?_
                                rotate_left
                                · rintro w' ⟨s0, s1, s2, s3⟩
                                  go_simp
                                  with_reducible rfl
                                rotate_left
                                · simp only [Act.put, List.setIfInBounds_toArray, List.set_cons_zero, List.set_cons_succ, i64_w, i32_w]
                                  rfl
                                refine one_ (i := 5) (N := some 69) #[true, true, true, true, true, true, true, true, true, true, false, false, false, false] rfl rfl (one_of HT_.out (by kernel_rfl)) (by decide) (fun K hK => ?_)
                                refine goes_ Tryd.func24 (by kernel_rfl) rfl #[.int .i64 (rd l0 x10_3)] (by rfl) rfl rfl qe_ ?_
                                with_reducible refine (merinoref01_Of.calls kj13 (rd l0 x10_3) t1174 t1175 _ A23.out).mono ?_
                                rintro e w29 ⟨v1176, rfl, ho0, hb⟩
                                refine ⟨_, rfl, ?_⟩
                                have n0_ := Aside0.mk (Kd.R_elder' (qr_ HO_1169001.out) (Kd.R_base ho0) hb)
                                have n1_ := Aside0.mk (Kd.R_lower (Kd.R_new' ho0 (Kd.R_lt (qr_ HO_1169001.out))) (below_size (q1_ HB.out GE1168.out)))
                                have n2_ := Aside0.mk (blk_below (g := gb1168) (o := .cells #[.bool x1169000_3, u1169001] 31 (0, 0)) (qb_ BK1168.out) hb)
                                have n3_ := Aside0.mk (below_step (q1_ HB.out GE1168.out) hb)
                                clear HO_1169001
                                clear BK1168
                                clear HB
                                have HO_1169001 := n0_
                                have HO1177 := n1_
                                have BK1168 := n2_
                                have HB := n3_
                                clear n0_ n1_ n2_ n3_
                                (try clear hb)
                                (try clear hb2)
                                (try clear hk)
                                (try clear hi)
                                (try clear ho0)
                                refine hK.out _ _ ⟨(blk_cell BK1168.out 0).trans rfl, (blk_cell BK1168.out 1).trans rfl, ((HB.out.cell (World.block_lt_of_cell? w _ hw1173_0)).trans hw1173_0), ((HB.out.cell (World.block_lt_of_cell? w _ hw1178_0)).trans hw1178_0)⟩ (fun hHeld => ?_)
                                clear hK K
                                refine norm_ (a' := ?_) ?_ ?_
                                rotate_left
                                · show Act.put _ (some 69) _ = _
                                  simp only [Act.put, List.setIfInBounds_toArray, List.set_cons_zero, List.set_cons_succ, i64_w, i32_w]
                                  rfl
                                refine one_ (i := 10) (N := some 74) #[true, true, true, true, true, true, true, true, true, true, true, false, false, false] rfl rfl (one_of HT_.out (by kernel_rfl)) (by decide) (fun K hK => ?_)
                                refine goes_ Tryd.func24 (by kernel_rfl) rfl #[.int .i64 (rd l1 x10_3)] (by rfl) rfl rfl qe_ ?_
                                with_reducible refine (merinoref01_Of.calls kj13 (rd l1 x10_3) t1179 t1180 _ A25.out).mono ?_
                                rintro e w30 ⟨v1181, rfl, ho0, hb⟩
                                refine ⟨_, rfl, ?_⟩
                                have n0_ := Aside0.mk (Kd.R_elder' (qr_ HO_1169001.out) (Kd.R_base ho0) hb)
                                have n1_ := Aside0.mk (Kd.R_elder' (qr_ HO1177.out) (Kd.R_base ho0) hb)
                                have n2_ := Aside0.mk (Kd.R_lower (Kd.R_new' (Kd.R_new' ho0 (Kd.R_lt (qr_ HO_1169001.out))) (Kd.R_lt (qr_ HO1177.out))) (below_size (q1_ HB.out GE1168.out)))
                                have n3_ := Aside0.mk (blk_below (g := gb1168) (o := .cells #[.bool x1169000_3, u1169001] 31 (0, 0)) (qb_ BK1168.out) hb)
                                have n4_ := Aside0.mk (below_step (q1_ HB.out GE1168.out) hb)
                                clear HO_1169001
                                clear HO1177
                                clear BK1168
                                clear HB
                                have HO_1169001 := n0_
                                have HO1177 := n1_
                                have HO1182 := n2_
                                have BK1168 := n3_
                                have HB := n4_
                                clear n0_ n1_ n2_ n3_ n4_
                                (try clear hb)
                                (try clear hb2)
                                (try clear hk)
                                (try clear hi)
                                (try clear ho0)
                                obtain ⟨Ao31, co31, eo31⟩ := Kd.R_slice HO1177.out
                                (first | subst eo31 | (injection eo31 with f1_ f2_ f3_; have f4_ := f1_.symm; have f5_ := f3_.symm; clear f1_ f2_ f3_; subst f4_; subst f5_))
                                obtain ⟨Ao32, co32, eo32⟩ := Kd.R_slice HO1182.out
                                (first | subst eo32 | (injection eo32 with f1_ f2_ f3_; have f4_ := f1_.symm; have f5_ := f3_.symm; clear f1_ f2_ f3_; subst f4_; subst f5_))
                                refine hK.out _ _ ⟨(blk_cell BK1168.out 0).trans rfl, (blk_cell BK1168.out 1).trans rfl, ((HB.out.cell (World.block_lt_of_cell? w _ hw1173_0)).trans hw1173_0), ((HB.out.cell (World.block_lt_of_cell? w _ hw1178_0)).trans hw1178_0)⟩ (fun hHeld => ?_)
                                clear hK K
                                refine norm_ (a' := ?_) ?_ ?_
                                rotate_left
                                · show Act.put _ (some 74) _ = _
                                  simp only [Act.put, List.setIfInBounds_toArray, List.set_cons_zero, List.set_cons_succ, i64_w, i32_w]
                                  rfl
                                refine one_ (i := 11) (N := some 75) #[true, true, true, true, true, true, true, true, true, true, true, true, false, false] rfl rfl (one_of HT_.out (by kernel_rfl)) (by decide) (fun K hK => ?_)
                                refine goes_ Tryd.func22 (by kernel_rfl) rfl #[.agg #[.bool t1174, .slice Ao31 t1175.length co31], .agg #[.bool t1179, .slice Ao32 t1180.length co32]] (by rfl) rfl rfl qe_ ?_
                                with_reducible refine (merinoref01_Times.calls kj13 t1174 _ _ t1175 t1179 _ _ t1180 t1183 t1184 _ ?side1 ?side2 ?side3 ?side4 A26.out).mono ?_
                                (case side1 => exact qc_ (Kd.R_reads' HO1177.out).2.2)
                                (case side2 => exact (Kd.R_reads' HO1177.out).2.1)
                                (case side3 => exact qc_ (Kd.R_reads' HO1182.out).2.2)
                                (case side4 => exact (Kd.R_reads' HO1182.out).2.1)
                                rintro e w33 ⟨v1185, rfl, ho0, hb⟩
                                refine ⟨_, rfl, ?_⟩
                                have n0_ := Aside0.mk (Kd.R_elder' (qr_ HO_1169001.out) (Kd.R_base ho0) hb)
                                have n1_ := Aside0.mk (Kd.R_elder' (qr_ HO1177.out) (Kd.R_base ho0) hb)
                                have n2_ := Aside0.mk (Kd.R_elder' (qr_ HO1182.out) (Kd.R_base ho0) hb)
                                have n3_ := Aside0.mk (Kd.R_lower (Kd.R_new' (Kd.R_new' (Kd.R_new' ho0 (Kd.R_lt (qr_ HO_1169001.out))) (Kd.R_lt (qr_ HO1177.out))) (Kd.R_lt (qr_ HO1182.out))) (below_size (q1_ HB.out GE1168.out)))
                                have n4_ := Aside0.mk (blk_below (g := gb1168) (o := .cells #[.bool x1169000_3, u1169001] 31 (0, 0)) (qb_ BK1168.out) hb)
                                have n5_ := Aside0.mk (below_step (q1_ HB.out GE1168.out) hb)
                                clear HO_1169001
                                clear HO1177
                                clear HO1182
                                clear BK1168
                                clear HB
                                have HO_1169001 := n0_
                                have HO1177 := n1_
                                have HO1182 := n2_
                                have HO1186 := n3_
                                have BK1168 := n4_
                                have HB := n5_
                                clear n0_ n1_ n2_ n3_ n4_ n5_
                                (try clear hb)
                                (try clear hb2)
                                (try clear hk)
                                (try clear hi)
                                (try clear ho0)
                                obtain ⟨Ao34, co34, eo34⟩ := Kd.R_slice HO_1169001.out
                                (first | subst eo34 | (injection eo34 with f1_ f2_ f3_; have f4_ := f1_.symm; have f5_ := f3_.symm; clear f1_ f2_ f3_; subst f4_; subst f5_))
                                obtain ⟨Ao35, co35, eo35⟩ := Kd.R_slice HO1186.out
                                (first | subst eo35 | (injection eo35 with f1_ f2_ f3_; have f4_ := f1_.symm; have f5_ := f3_.symm; clear f1_ f2_ f3_; subst f4_; subst f5_))
                                refine hK.out _ _ ⟨(blk_cell BK1168.out 0).trans rfl, (blk_cell BK1168.out 1).trans rfl, ((HB.out.cell (World.block_lt_of_cell? w _ hw1173_0)).trans hw1173_0), ((HB.out.cell (World.block_lt_of_cell? w _ hw1178_0)).trans hw1178_0)⟩ (fun hHeld => ?_)
                                clear hK K
                                refine norm_ (a' := ?_) ?_ ?_
                                rotate_left
                                · show Act.put _ (some 75) _ = _
                                  simp only [Act.put, List.setIfInBounds_toArray, List.set_cons_zero, List.set_cons_succ, i64_w, i32_w]
                                  rfl
                                refine one_ (i := 12) (N := some 76) #[true, true, true, true, true, true, true, true, true, true, true, true, true, false] rfl rfl (one_of HT_.out (by kernel_rfl)) (by decide) (fun K hK => ?_)
                                refine goes_ Tryd.func84 (by kernel_rfl) rfl #[.agg #[.bool x1169000_3, .slice Ao34 x1169001_3.length co34], .agg #[.bool t1183, .slice Ao35 t1184.length co35]] (by rfl) rfl rfl qe_ ?_
                                with_reducible refine (merinoref01_Plus.calls kj13 x1169000_3 _ _ x1169001_3 t1183 _ _ t1184 t1187 t1188 _ ?side1 ?side2 ?side3 ?side4 A27.out).mono ?_
                                (case side1 => exact qc_ (Kd.R_reads' HO_1169001.out).2.2)
                                (case side2 => exact (Kd.R_reads' HO_1169001.out).2.1)
                                (case side3 => exact qc_ (Kd.R_reads' HO1186.out).2.2)
                                (case side4 => exact (Kd.R_reads' HO1186.out).2.1)
                                rintro e w36 ⟨v1189, rfl, ho0, hb⟩
                                refine ⟨_, rfl, ?_⟩
                                have n0_ := Aside0.mk (Kd.R_elder' (qr_ HO_1169001.out) (Kd.R_base ho0) hb)
                                have n1_ := Aside0.mk (Kd.R_elder' (qr_ HO1177.out) (Kd.R_base ho0) hb)
                                have n2_ := Aside0.mk (Kd.R_elder' (qr_ HO1182.out) (Kd.R_base ho0) hb)
                                have n3_ := Aside0.mk (Kd.R_elder' (qr_ HO1186.out) (Kd.R_base ho0) hb)
                                have n4_ := Aside0.mk (Kd.R_lower (Kd.R_new' (Kd.R_new' (Kd.R_new' (Kd.R_new' ho0 (Kd.R_lt (qr_ HO_1169001.out))) (Kd.R_lt (qr_ HO1177.out))) (Kd.R_lt (qr_ HO1182.out))) (Kd.R_lt (qr_ HO1186.out))) (below_size (q1_ HB.out GE1168.out)))
                                have n5_ := Aside0.mk (blk_below (g := gb1168) (o := .cells #[.bool x1169000_3, .slice Ao34 x1169001_3.length co34] 31 (0, 0)) (qb_ BK1168.out) hb)
                                have n6_ := Aside0.mk (below_step (q1_ HB.out GE1168.out) hb)
                                clear HO_1169001
                                clear HO1177
                                clear HO1182
                                clear HO1186
                                clear BK1168
                                clear HB
                                have HO_1169001 := n0_
                                have HO1177 := n1_
                                have HO1182 := n2_
                                have HO1186 := n3_
                                have HO1190 := n4_
                                have BK1168 := n5_
                                have HB := n6_
                                clear n0_ n1_ n2_ n3_ n4_ n5_ n6_
                                (try clear hb)
                                (try clear hb2)
                                (try clear hk)
                                (try clear hi)
                                (try clear ho0)
                                obtain ⟨Ao38, co38, eo38⟩ := Kd.R_slice HO1190.out
                                (first | subst eo38 | (injection eo38 with f1_ f2_ f3_; have f4_ := f1_.symm; have f5_ := f3_.symm; clear f1_ f2_ f3_; subst f4_; subst f5_))
                                refine hK.out _ _ ⟨(blk_cell BK1168.out 0).trans rfl, (blk_cell BK1168.out 1).trans rfl, ((HB.out.cell (World.block_lt_of_cell? w _ hw1173_0)).trans hw1173_0), ((HB.out.cell (World.block_lt_of_cell? w _ hw1178_0)).trans hw1178_0)⟩ (fun hHeld => ?_)
                                clear hK K
                                refine norm_ (a' := ?_) ?_ ?_
                                rotate_left
                                · show Act.put _ (some 76) _ = _
                                  simp only [Act.put, List.setIfInBounds_toArray, List.set_cons_zero, List.set_cons_succ, i64_w, i32_w]
                                  rfl
                                refine last_ (i := 13) (N := none) #[true, true, true, true, true, true, true, true, true, true, true, true, true, true] rfl rfl (one_of HT_.out (by kernel_rfl)) (by decide) (fun K hK => ?_)
                                have hs37 : w36.cell? ⟨gb1168, 0, none⟩ = some (.bool x1169000_3) := (blk_cell BK1168.out 0).trans rfl
                                have hfs37 := blk_frozen BK1168.out 0
                                have hs39 : w36.cell? ⟨gb1168, 1, none⟩ = some (.slice Ao34 x1169001_3.length co34) := (blk_cell BK1168.out 1).trans rfl
                                have hfs39 := blk_frozen BK1168.out 1
                                refine skip_ (w1 := ?_) (by rfl) rfl ?_ ?_
                                rotate_left
                                · go_simp
                                  rfl
                                refine hK.out _ _ ?_
                                clear hK K
                                refine done_ (done_of HT_.out (by kernel_rfl)) ?_
                                have p1191 : 0 ≤ (x10_3 : Int) := of_decide_eq_true (by first | (with_reducible assumption) | assumption)
                                have q1191 : x10_3 < (l1.length : Int) := of_decide_eq_true (by first | (with_reducible assumption) | assumption)
                                obtain ⟨ad1191, e1191, hx1191_0⟩ := Kd.at_int HR1.out x10_3 p1191 q1191
                                obtain rfl : ad1178 = ad1191 := (by injection e1191)
                                have hn1191_0 : ad1178.block ≠ gb1168 := Nat.ne_of_lt (Nat.lt_of_lt_of_le (by have := World.block_lt_of_cell? _ _ hx1191_0; first | rwa [add_block] at this | exact this) GW1168.out)
                                have hn1191_1 : ad1178.block ≠ gb1168 := Nat.ne_of_lt (Nat.lt_of_lt_of_le (by have := World.block_lt_of_cell? _ _ hx1191_0; first | rwa [add_block] at this | exact this) GW1168.out)
                                replace hx1191_0 := (HB.out.cell (World.block_lt_of_cell? w _ hx1191_0)).trans hx1191_0
                                replace hx1191_0 := (cell_far (p := ⟨gb1168, 0, none⟩) (by first | (rw [add_block]; exact hn1191_0) | (show (Addr.add _ _).block ≠ _; rw [add_block]; exact hn1191_0) | exact hn1191_0) (.bool t1187)).trans hx1191_0
                                replace hx1191_0 := (cell_far (p := ⟨gb1168, 1, none⟩) (by first | (rw [add_block]; exact hn1191_1) | (show (Addr.add _ _).block ≠ _; rw [add_block]; exact hn1191_1) | exact hn1191_1) (.slice Ao38 t1188.length co38)).trans hx1191_0
                                clear hn1191_0
                                clear hn1191_1
                                replace p1191 := eq_true p1191
                                replace q1191 := eq_true q1191
                                try go_wp2
                                go_roundg kj13
                                case measure => have := HJ3.out; have := HJ6.out; have := HK3.out; have := HJ13.out; omega
                                case rel => exact ⟨(wrap64 (x9_3 + (rd l1 x10_3))), (wrap64 (x10_3 + 1)), (t1187), (t1188), (.slice Ao38 t1188.length co38), (by first | rfl | (simp; done) | (simp [*]; done)), (by first | rfl | (simp; done) | (simp [*]; done)), H', ⟨by have := HJ3.out; have := HJ6.out; have := HK3.out; have := HJ13.out; omega⟩, ⟨by (with_reducible repeat (first | apply Kd.R_alloc | apply Kd.R_drewN | apply Kd.R_drew)); exact Kd.R_mono (Kd.R_far (p := ⟨gb1168, 1, none⟩) (Kd.R_far (p := ⟨gb1168, 0, none⟩) (Kd.R_types HO1190.out BK1168.out (by decide)) (fun _ hk => hk.2) (.bool t1187)) (fun _ hk => hk.2) (.slice Ao38 t1188.length co38)) (fun _ hk => trivial)⟩, ⟨by (with_reducible repeat (first | refine blk_drewN ?_ _ | refine blk_drew ?_ | refine blk_alloc ?_ _)); refine blk_put (cs := #[.bool t1187, .slice Ao34 x1169001_3.length co34]) ?_ 1 _ rfl; (with_reducible repeat (first | refine blk_drewN ?_ _ | refine blk_drew ?_ | refine blk_alloc ?_ _)); refine blk_put (cs := #[.bool x1169000_3, .slice Ao34 x1169001_3.length co34]) ?_ 0 _ rfl; (with_reducible repeat (first | refine blk_drewN ?_ _ | refine blk_drew ?_ | refine blk_alloc ?_ _)); exact BK1168.out⟩, ⟨(q1_ HB.out GE1168.out)⟩⟩
                              · rw [if_neg c24] at H
                                exact absurd H (by simp)
                            · rw [if_neg c22] at H
                              exact absurd H (by simp)
                          · rw [if_neg c21] at H
                            exact absurd H (by simp)
                  · rw [if_neg c13] at H
                    have c13b0 : decide (x10_3 < (l0.length : Int)) = false := decide_eq_false c13
                    clear c13
                    by_cases c40 : x9_3 = 0
                    · rw [if_pos c40] at H
                      have c40b0 : (x9_3 == 0) = true := beq_iff_eq.mpr c40
                      have c40b1 : (x9_3 != 0) = false := bne_eq_false_iff_eq.mpr c40
                      clear c40
                      simp only [Option.some.injEq, Prod.mk.injEq] at H
                      obtain ⟨rfl, rfl⟩ := H
                      go_wp2
                      go_ret2
                      exact ⟨by first | rfl | (simp [errW_none, errW_some] <;> rfl) | (simp [*, errW_none, errW_some] <;> rfl), (q1_ HB.out GE1168.out)⟩
                    · rw [if_neg c40] at H
                      have c40b0 : (x9_3 == 0) = false := beq_eq_false_iff_ne.mpr c40
                      have c40b1 : (x9_3 != 0) = true := bne_iff_ne.mpr c40
                      replace H := Option.bind_eq_some_iff.mp H
                      obtain ⟨⟨t1192, t1193⟩, A410, H⟩ := H
                      replace H : ((merinoref01_Rounded.f k3 x1169000_3 x1169001_3 t1192 t1193 a2).bind fun bt1196 => ((merinoref01_Within.f k3 bt1196.1 bt1196.2 16777216).bind fun bt1200 => (some (bt1200.1, 0)))) = some (r1, r2) := H
                      have A41 := Aside0.mk A410
                      clear A410
                      replace H := Option.bind_eq_some_iff.mp H
                      obtain ⟨⟨t1196, t1197⟩, A420, H⟩ := H
                      replace H : ((merinoref01_Within.f k3 t1196 t1197 16777216).bind fun bt1200 => (some (bt1200.1, 0))) = some (r1, r2) := H
                      have A42 := Aside0.mk A420
                      clear A420
                      replace H := Option.bind_eq_some_iff.mp H
                      obtain ⟨⟨t1200, t1201⟩, A430, H⟩ := H
                      replace H : (some (t1200, 0)) = some (r1, r2) := H
                      have A43 := Aside0.mk A430
                      clear A430
                      simp only [Option.some.injEq, Prod.mk.injEq] at H
                      obtain ⟨rfl, rfl⟩ := H
                      try go_wp2
                      have n0_ := Aside0.mk (Kd.R_drew HO_1169001.out)
                      have n1_ := Aside0.mk (blk_drew BK1168.out)
                      have n2_ := Aside0.mk (below_drew1 HB.out)
                      clear HO_1169001
                      clear BK1168
                      clear HB
                      have HO_1169001 := n0_
                      have BK1168 := n1_
                      have HB := n2_
                      clear n0_ n1_ n2_
                      refine start_ (n := 11) (S := fun w' => w'.cell? ⟨gb1168, 0, none⟩ = some (.bool x1169000_3) ∧ w'.cell? ⟨gb1168, 1, none⟩ = some (u1169001)) (ds := []) #[false, false, false, false, false, false, false, false, false, false, false] (by kernel_rfl) rfl rfl ⟨(blk_cell BK1168.out 0).trans rfl, (blk_cell BK1168.out 1).trans rfl⟩ (fun hHeld => ?_); refine with_tabW merinoref01_Mean.tab15 merinoref01_Mean.bits15 (fun HT_ HW_ => ?_)
                      generalize wr.drew = w44 at HO_1169001 BK1168 HB hHeld ⊢
                      refine pure_ (i := 1) (N := some 87) (v := ?_) (a' := ?_) #[false, true, false, false, false, false, false, false, false, false, false] rfl rfl (any_of HT_.out (by kernel_rfl)) (fun _ _ _ h => h) (Or.inl ⟨by rfl, ?_⟩) ?_ ?_
                      rotate_left
                      · intro w'
                        go_simp
                        with_reducible rfl
                      rotate_left
                      · simp only [Act.put, List.setIfInBounds_toArray, List.set_cons_zero, List.set_cons_succ, i64_w, i32_w]
                        rfl
                      refine pure_ (i := 3) (N := some 89) (v := ?_) (a' := ?_) #[false, true, false, true, false, false, false, false, false, false, false] rfl rfl (any_of HT_.out (by kernel_rfl)) (fun _ _ _ h => h) (Or.inl ⟨by rfl, ?_⟩) ?_ ?_
                      rotate_left
                      · intro w'
                        go_simp
                        with_reducible rfl
                      rotate_left
                      · simp only [Act.put, List.setIfInBounds_toArray, List.set_cons_zero, List.set_cons_succ, i64_w, i32_w]
                        rfl
                      refine take_ (i := 0) (N := some 86) (v := ?_) (a' := ?_) #[true, true, false, true, false, false, false, false, false, false, false] rfl rfl (take_ofW HT_.out HW_.out (by kernel_rfl)) (fun _ _ _ h => h) (Or.inl ⟨by rfl, ?_⟩) hHeld ?_ ?_
                      rotate_left
                      · rintro w' ⟨s0, s1⟩
                        go_simp
                        with_reducible rfl
                      rotate_left
                      · simp only [Act.put, List.setIfInBounds_toArray, List.set_cons_zero, List.set_cons_succ, i64_w, i32_w]
                        rfl
                      refine one_ (i := 2) (N := some 88) #[true, true, true, true, false, false, false, false, false, false, false] rfl rfl (one_of HT_.out (by kernel_rfl)) (by decide) (fun K hK => ?_)
                      refine goes_ Tryd.func24 (by kernel_rfl) rfl #[.int .i64 x9_3] (by rfl) rfl rfl qe_ ?_
                      with_reducible refine (merinoref01_Of.calls k3 x9_3 t1192 t1193 _ A41.out).mono ?_
                      rintro e w45 ⟨v1194, rfl, ho0, hb⟩
                      refine ⟨_, rfl, ?_⟩
                      have n0_ := Aside0.mk (Kd.R_elder' (qr_ HO_1169001.out) (Kd.R_base ho0) hb)
                      have n1_ := Aside0.mk (Kd.R_lower (Kd.R_new' ho0 (Kd.R_lt (qr_ HO_1169001.out))) (below_size (q1_ HB.out GE1168.out)))
                      have n2_ := Aside0.mk (blk_below (g := gb1168) (o := .cells #[.bool x1169000_3, u1169001] 31 (0, 0)) (qb_ BK1168.out) hb)
                      have n3_ := Aside0.mk (below_step (q1_ HB.out GE1168.out) hb)
                      clear HO_1169001
                      clear BK1168
                      clear HB
                      have HO_1169001 := n0_
                      have HO1195 := n1_
                      have BK1168 := n2_
                      have HB := n3_
                      clear n0_ n1_ n2_ n3_
                      (try clear hb)
                      (try clear hb2)
                      (try clear hk)
                      (try clear hi)
                      (try clear ho0)
                      obtain ⟨Ao46, co46, eo46⟩ := Kd.R_slice HO_1169001.out
                      (first | subst eo46 | (injection eo46 with f1_ f2_ f3_; have f4_ := f1_.symm; have f5_ := f3_.symm; clear f1_ f2_ f3_; subst f4_; subst f5_))
                      obtain ⟨Ao47, co47, eo47⟩ := Kd.R_slice HO1195.out
                      (first | subst eo47 | (injection eo47 with f1_ f2_ f3_; have f4_ := f1_.symm; have f5_ := f3_.symm; clear f1_ f2_ f3_; subst f4_; subst f5_))
                      refine hK.out _ _ ⟨(blk_cell BK1168.out 0).trans rfl, (blk_cell BK1168.out 1).trans rfl⟩ (fun hHeld => ?_)
                      clear hK K
                      refine norm_ (a' := ?_) ?_ ?_
                      rotate_left
                      · show Act.put _ (some 88) _ = _
                        simp only [Act.put, List.setIfInBounds_toArray, List.set_cons_zero, List.set_cons_succ, i64_w, i32_w]
                        rfl
                      refine one_ (i := 4) (N := some 90) #[true, true, true, true, true, false, false, false, false, false, false] rfl rfl (one_of HT_.out (by kernel_rfl)) (by decide) (fun K hK => ?_)
                      refine goes_ Tryd.func99 (by kernel_rfl) rfl #[.agg #[.bool x1169000_3, .slice Ao46 x1169001_3.length co46], .agg #[.bool t1192, .slice Ao47 t1193.length co47], .int .i64 a2] (by rfl) rfl rfl qe_ ?_
                      with_reducible refine (merinoref01_Rounded.calls k3 x1169000_3 _ _ x1169001_3 t1192 _ _ t1193 a2 t1196 t1197 _ ?side1 ?side2 ?side3 ?side4 A42.out).mono ?_
                      (case side1 => exact qc_ (Kd.R_reads' HO_1169001.out).2.2)
                      (case side2 => exact (Kd.R_reads' HO_1169001.out).2.1)
                      (case side3 => exact qc_ (Kd.R_reads' HO1195.out).2.2)
                      (case side4 => exact (Kd.R_reads' HO1195.out).2.1)
                      rintro e w48 ⟨v1198, rfl, ho0, hb⟩
                      refine ⟨_, rfl, ?_⟩
                      have n0_ := Aside0.mk (Kd.R_elder' (qr_ HO_1169001.out) (Kd.R_base ho0) hb)
                      have n1_ := Aside0.mk (Kd.R_elder' (qr_ HO1195.out) (Kd.R_base ho0) hb)
                      have n2_ := Aside0.mk (Kd.R_lower (Kd.R_new' (Kd.R_new' ho0 (Kd.R_lt (qr_ HO_1169001.out))) (Kd.R_lt (qr_ HO1195.out))) (below_size (q1_ HB.out GE1168.out)))
                      have n3_ := Aside0.mk (blk_below (g := gb1168) (o := .cells #[.bool x1169000_3, .slice Ao46 x1169001_3.length co46] 31 (0, 0)) (qb_ BK1168.out) hb)
                      have n4_ := Aside0.mk (below_step (q1_ HB.out GE1168.out) hb)
                      clear HO_1169001
                      clear HO1195
                      clear BK1168
                      clear HB
                      have HO_1169001 := n0_
                      have HO1195 := n1_
                      have HO1199 := n2_
                      have BK1168 := n3_
                      have HB := n4_
                      clear n0_ n1_ n2_ n3_ n4_
                      (try clear hb)
                      (try clear hb2)
                      (try clear hk)
                      (try clear hi)
                      (try clear ho0)
                      obtain ⟨Ao49, co49, eo49⟩ := Kd.R_slice HO1199.out
                      (first | subst eo49 | (injection eo49 with f1_ f2_ f3_; have f4_ := f1_.symm; have f5_ := f3_.symm; clear f1_ f2_ f3_; subst f4_; subst f5_))
                      refine hK.out _ _ ⟨(blk_cell BK1168.out 0).trans rfl, (blk_cell BK1168.out 1).trans rfl⟩ (fun hHeld => ?_)
                      clear hK K
                      refine norm_ (a' := ?_) ?_ ?_
                      rotate_left
                      · show Act.put _ (some 90) _ = _
                        simp only [Act.put, List.setIfInBounds_toArray, List.set_cons_zero, List.set_cons_succ, i64_w, i32_w]
                        rfl
                      refine one_ (i := 5) (N := some 91) #[true, true, true, true, true, true, false, false, false, false, false] rfl rfl (one_of HT_.out (by kernel_rfl)) (by decide) (fun K hK => ?_)
                      refine goes_ Tryd.func98 (by kernel_rfl) rfl #[.agg #[.bool t1196, .slice Ao49 t1197.length co49], .int .i64 16777216] (by rfl) rfl rfl qe_ ?_
                      with_reducible refine (merinoref01_Within.calls k3 t1196 _ _ t1197 16777216 t1200 t1201 _ ?side1 ?side2 A43.out).mono ?_
                      (case side1 => exact qc_ (Kd.R_reads' HO1199.out).2.2)
                      (case side2 => exact (Kd.R_reads' HO1199.out).2.1)
                      rintro e w50 ⟨rfl, hb⟩
                      refine ⟨_, rfl, ?_⟩
                      have n0_ := Aside0.mk (Kd.R_below (qr_ HO_1169001.out) hb)
                      have n1_ := Aside0.mk (Kd.R_below (qr_ HO1195.out) hb)
                      have n2_ := Aside0.mk (Kd.R_below (qr_ HO1199.out) hb)
                      have n3_ := Aside0.mk (blk_below (g := gb1168) (o := .cells #[.bool x1169000_3, .slice Ao46 x1169001_3.length co46] 31 (0, 0)) (qb_ BK1168.out) hb)
                      have n4_ := Aside0.mk (below_step (q1_ HB.out GE1168.out) hb)
                      clear HO_1169001
                      clear HO1195
                      clear HO1199
                      clear BK1168
                      clear HB
                      have HO_1169001 := n0_
                      have HO1195 := n1_
                      have HO1199 := n2_
                      have BK1168 := n3_
                      have HB := n4_
                      clear n0_ n1_ n2_ n3_ n4_
                      (try clear hb)
                      (try clear hb2)
                      (try clear hk)
                      (try clear hi)
                      refine hK.out _ _ ⟨(blk_cell BK1168.out 0).trans rfl, (blk_cell BK1168.out 1).trans rfl⟩ (fun hHeld => ?_)
                      clear hK K
                      refine norm_ (a' := ?_) ?_ ?_
                      rotate_left
                      · show Act.put _ (some 91) _ = _
                        simp only [Act.put, List.setIfInBounds_toArray, List.set_cons_zero, List.set_cons_succ, i64_w, i32_w]
                        rfl
                      refine pure_ (i := 6) (N := some 85) (v := ?_) (a' := ?_) #[true, true, true, true, true, true, true, false, false, false, false] rfl rfl (any_of HT_.out (by kernel_rfl)) (fun _ _ _ h => h) (Or.inl ⟨by rfl, ?_⟩) ?_ ?_
                      rotate_left
                      · intro w'
                        go_simp
                        with_reducible rfl
                      rotate_left
                      · simp only [Act.put, List.setIfInBounds_toArray, List.set_cons_zero, List.set_cons_succ, i64_w, i32_w]
                        rfl
                      refine pure_ (i := 7) (N := some 92) (v := ?_) (a' := ?_) #[true, true, true, true, true, true, true, true, false, false, false] rfl rfl (any_of HT_.out (by kernel_rfl)) (fun _ _ _ h => h) (Or.inl ⟨by rfl, ?_⟩) ?_ ?_
                      rotate_left
                      · intro w'
                        go_simp
                        with_reducible rfl
                      rotate_left
                      · simp only [Act.put, List.setIfInBounds_toArray, List.set_cons_zero, List.set_cons_succ, i64_w, i32_w]
                        rfl
                      refine pure_ (i := 8) (N := some 93) (v := ?_) (a' := ?_) #[true, true, true, true, true, true, true, true, true, false, false] rfl rfl (any_of HT_.out (by kernel_rfl)) (fun _ _ _ h => h) (Or.inl ⟨by rfl, ?_⟩) ?_ ?_
                      rotate_left
                      · intro w'
                        go_simp
                        with_reducible rfl
                      rotate_left
                      · simp only [Act.put, List.setIfInBounds_toArray, List.set_cons_zero, List.set_cons_succ, i64_w, i32_w]
                        rfl
                      refine pure_ (i := 9) (N := some 11) (v := ?_) (a' := ?_) #[true, true, true, true, true, true, true, true, true, true, false] rfl rfl (any_of HT_.out (by kernel_rfl)) (fun _ _ _ h => h) (Or.inl ⟨by rfl, ?_⟩) ?_ ?_
                      rotate_left
                      · intro w'
                        go_simp
                        with_reducible rfl
                      rotate_left
                      · simp only [Act.put, List.setIfInBounds_toArray, List.set_cons_zero, List.set_cons_succ, i64_w, i32_w]
                        rfl
                      refine pure_ (i := 10) (N := some 12) (v := ?_) (a' := ?_) #[true, true, true, true, true, true, true, true, true, true, true] rfl rfl (any_of HT_.out (by kernel_rfl)) (fun _ _ _ h => h) (Or.inl ⟨by rfl, ?_⟩) ?_ ?_
                      rotate_left
                      · intro w'
                        go_simp
                        with_reducible rfl
                      rotate_left
                      · simp only [Act.put, List.setIfInBounds_toArray, List.set_cons_zero, List.set_cons_succ, i64_w, i32_w]
                        rfl
                      refine done_ (done_of HT_.out (by kernel_rfl)) ?_
                      try go_wp2
                      go_ret2
                      exact ⟨by first | rfl | (simp [errW_none, errW_some] <;> rfl) | (simp [*, errW_none, errW_some] <;> rfl), (q1_ HB.out GE1168.out)⟩
end Go.Proofs.YtdjnneflpkllmaaDoor.Q

namespace Go.Proofs.Num
open Go.RowKit Go.Proofs.YtdjnneflpkllmaaDoorW.PrintLast Go.Proofs.YtdjnneflpkllmaaDoorW.PrintWords
set_option linter.unusedVariables false
set_option linter.unusedSimpArgs false
theorem below_draws {B : Nat} {a w : World} (h : Below B a w) (n : Nat) : Below B a (w.drewN n) := h.trans ⟨rfl, rfl, rfl, Nat.le_refl _, fun _ _ => rfl⟩
def cmpv (b1 b2 : Int) : Int := if b2 < b1 then -1 else if b1 < b2 then 1 else 0
theorem cmp_rest0 (a1 b1 a2 b2 : Int) (w : World) : Calls Tryd.prog 95 #[.agg #[.int .i64 a1, .int .i64 b1], .agg #[.int .i64 a2, .int .i64 b2]] w fun e w' => e = .returned (.int .i64 (if b2 < b1 then -1 else if b1 < b2 then 1 else 0)) ∧ Below w.heap.size w w' := by
  have hb := ((Below.refl w.heap.size w).alloc (Nat.le_refl _) (.cells #[.int .i64 a1, .int .i64 b1] 101)).alloc (by simp) (.cells #[.int .i64 a2, .int .i64 b2] 101)
  go_enter Tryd.func95, Tryd.ntmps95
  go_wp2
  all_goals go_ret
  all_goals refine ⟨?_, hb⟩
  all_goals first | rfl | (simp [*]; done) | (rw [if_neg (by omega), if_neg (by omega)])
theorem cmp_rest (a1 b1 a2 b2 : Int) (w : World) : Calls Tryd.prog 95 #[.agg #[.int .i64 a1, .int .i64 b1], .agg #[.int .i64 a2, .int .i64 b2]] w fun e w' => e = .returned (.int .i64 (cmpv b1 b2)) ∧ Below w.heap.size w w' := cmp_rest0 a1 b1 a2 b2 w
theorem cmpv_neg (b1 b2 : Int) : cmpv b1 b2 < 0 ↔ b2 < b1 := by unfold cmpv; split <;> (try split) <;> omega
/-- A row of pairs that is sorted where it lies. -/
def Rst (W : World) (g : Nat) (l : List (Int × Int)) : Prop :=
  ∃ cs ty, W.heap[g]? = some (.cells cs ty (0, 0)) ∧ 2 * l.length ≤ cs.size ∧ ∀ i x, l[i]? = some x → cs[i * 2]? = some (.int .i64 x.1) ∧ cs[i * 2 + 1]? = some (.int .i64 x.2)
theorem Rst.cell {W : World} {g : Nat} {l : List (Int × Int)} (h : Rst W g l) {i : Nat} {x : Int × Int} (hx : l[i]? = some x) : W.cell? ⟨g, i * 2, none⟩ = some (.int .i64 x.1) ∧ W.cell? ⟨g, i * 2 + 1, none⟩ = some (.int .i64 x.2) := by
  obtain ⟨cs, ty, hh, hn, hc⟩ := h
  obtain ⟨h1, h2⟩ := hc i x hx
  exact ⟨by simpa [World.cell?, hh] using h1, by simpa [World.cell?, hh] using h2⟩
theorem Rst.frozen {W : World} {g : Nat} {l : List (Int × Int)} (h : Rst W g l) (k : Nat) : W.frozen? ⟨g, k, none⟩ = false := by
  obtain ⟨cs, ty, hh, -⟩ := h
  simp [World.frozen?, hh]
theorem Rst.later {W W' : World} {g : Nat} {l : List (Int × Int)} (h : Rst W g l) (hg : g < W.heap.size) (hb : Below W.heap.size W W') : Rst W' g l := by
  obtain ⟨cs, ty, hh, r⟩ := h
  exact ⟨cs, ty, (hb.block g hg).trans hh, r⟩
theorem Rst.lt {W : World} {g : Nat} {l : List (Int × Int)} (h : Rst W g l) : g < W.heap.size := by
  obtain ⟨cs, ty, hh, r⟩ := h
  exact (Array.getElem?_eq_some_iff.1 hh).1
/-- Two neighbours change places. -/
def swp (l : List (Int × Int)) (m : Nat) : List (Int × Int) := match l[m]?, l[m + 1]? with
  | some x, some y => (l.set (m + 1) x).set m y
  | _, _ => l
/-- The inner loop. -/
def ins (a : Nat) : Nat → List (Int × Int) → List (Int × Int)
  | 0, l => l
  | m + 1, l => if a < m + 1 then
      match l[m]?, l[m + 1]? with
      | some x, some y => if x.2 < y.2 then ins a m (swp l m) else l
      | _, _ => l
    else l
theorem ins_go {a m : Nat} {l : List (Int × Int)} {x y : Int × Int} (h : a < m + 1) (hx : l[m]? = some x) (hy : l[m + 1]? = some y) (hxy : x.2 < y.2) : ins a (m + 1) l = ins a m (swp l m) := by
  simp [ins, h, hx, hy, hxy]
theorem ins_stop {a m : Nat} {l : List (Int × Int)} {x y : Int × Int} (hx : l[m]? = some x) (hy : l[m + 1]? = some y) (hxy : ¬ x.2 < y.2) : ins a (m + 1) l = l := by
  simp [ins, hx, hy, hxy]
/-- The outer loop: d steps from i on. -/
def outer (a : Nat) : Nat → Nat → List (Int × Int) → List (Int × Int)
  | 0, _, l => l
  | d + 1, i, l => outer a d (i + 1) (ins a i l)
theorem grown_below {W W' : World} {g : Nat} (h : Below W.heap.size W W') : W.grownBy W' (some g) := ⟨h.os, h.tape, h.output, h.size, fun k hk _ => h.block k hk⟩
theorem grown_trans {A B C : World} {g : Nat} (h : A.grownBy B (some g)) (k : B.grownBy C (some g)) : A.grownBy C (some g) :=
  ⟨k.os.trans h.os, k.tape.trans h.tape, k.output.trans h.output, Nat.le_trans h.size k.size, fun i hi hn => (k.block i (Nat.lt_of_lt_of_le hi h.size) hn).trans (h.block i hi hn)⟩
theorem grown_set (W : World) (g o : Nat) (v : Value) : W.grownBy (W.setCell ⟨g, o, none⟩ v) (some g) :=
  ⟨rfl, rfl, rfl, by simp [World.setCell], fun k _ hk => Below.heap_setCell _ _ _ k (fun e => hk (by rw [e]))⟩
theorem Rst.put {W : World} {g : Nat} {l : List (Int × Int)} (h : Rst W g l) (i : Nat) (x : Int × Int) : Rst ((W.setCell ⟨g, i * 2, none⟩ (.int .i64 x.1)).setCell ⟨g, i * 2 + 1, none⟩ (.int .i64 x.2)) g (l.set i x) := by
  obtain ⟨cs, ty, hh, hn, hc⟩ := h
  refine ⟨(cs.setIfInBounds (i * 2) (.int .i64 x.1)).setIfInBounds (i * 2 + 1) (.int .i64 x.2), ty, ?_, by simpa using hn, ?_⟩
  · simp [World.setCell, Array.getElem?_modify, hh]
  · intro j z hz
    have hj : j < l.length := by
      rcases Nat.lt_or_ge j l.length with h | h
      · exact h
      · rw [List.getElem?_eq_none (by simpa using h)] at hz; cases hz
    rw [List.getElem?_set] at hz
    simp only [Array.getElem?_setIfInBounds, Array.size_setIfInBounds]
    by_cases e : i = j
    · subst e
      rw [if_pos rfl, if_pos hj] at hz
      injection hz with hz
      subst hz
      exact ⟨by rw [if_neg (by omega), if_pos rfl, if_pos (by omega)], by rw [if_pos rfl, if_pos (by omega)]⟩
    · rw [if_neg e] at hz
      obtain ⟨h1, h2⟩ := hc j z hz
      exact ⟨by rw [if_neg (by omega), if_neg (by omega)]; exact h1, by rw [if_neg (by omega), if_neg (by omega)]; exact h2⟩
theorem Rst.drew {W : World} {g : Nat} {l : List (Int × Int)} (h : Rst W g l) : Rst W.drew g l := h
set_option maxRecDepth 100000 in
set_option maxHeartbeats 3200000 in
theorem insertion (g a b c : Nat) (l : List (Int × Int)) (W : World) (hR : Rst W g l) (ha : a ≤ b) (hb : b ≤ l.length) (hc : l.length ≤ c) (hl : l.length ≤ 1099511627776) :
    Calls Tryd.prog 128 #[.slice (some ⟨g, 0, none⟩) l.length c, .int .i64 a, .int .i64 b, .func (.func 95) #[] #[]] W fun e w' => e = .returned (.tuple #[]) ∧ W.grownBy w' (some g) ∧ Rst w' g (outer a (b - (a + 1)) (a + 1) l) := by
  obtain ⟨n, hn⟩ : ∃ n, n = l.length := ⟨_, rfl⟩
  rw [← hn] at hb hc hl ⊢
  have HN := Lib.hid hn
  clear hn
  have e0 : IntKind.i64.wrap ((a : Int) + 1) = ((a + 1 : Nat) : Int) := by rw [IntKind.wrap_i64]; omega
  go_enter Tryd.func128, Tryd.ntmps128
  go_wp2
  clear e0
  go_loopg [8] (b - a) (fun k x8 wr => ∃ (i : Nat) (l' : List (Int × Int)), x8 = .int .i64 i ∧ a + 1 ≤ i ∧ Rst wr g l' ∧ l'.length = n ∧ W.grownBy wr (some g) ∧ Hid (outer a (b - i) i l' = outer a (b - (a + 1)) (a + 1) l) ∧ Hid (b + 1 - i = k))
  case atStart => exact ⟨a + 1, l, rfl, Nat.le_refl _, hR, HN.out.symm, ⟨rfl, rfl, rfl, Nat.le_refl _, fun _ _ _ => rfl⟩, rfl, (show b + 1 - (a + 1) = b - a by omega)⟩
  case round =>
    obtain ⟨i, l', rfl, hi, hR', hl', hg', HO, HK⟩ := hrel
    by_cases hlt : i < b
    · have z0 : (i : Int) < (b : Int) := by omega
      go_wp2
      go_loopg [9] i (fun k x9 wx => ∃ (j : Nat) (l'' : List (Int × Int)), x9 = .int .i64 j ∧ j ≤ i ∧ Rst wx g l'' ∧ l''.length = n ∧ W.grownBy wx (some g) ∧ Hid (ins a j l'' = ins a i l') ∧ Hid (j = k))
      case atStart => exact ⟨i, l', rfl, Nat.le_refl _, hR', hl', hg', rfl, rfl⟩
      case round =>
        obtain ⟨j, l'', rfl, hji, hRx, hlx, hgx, HI, HJ⟩ := hrel
        by_cases hj : a < j
        · obtain ⟨m, rfl⟩ : ∃ m, j = m + 1 := ⟨j - 1, by omega⟩
          have y0 : decide ((a : Int) < (m : Int) + 1) = true := decide_eq_true (by omega)
          have e1 : IntKind.i64.wrap ((m : Int) + 1 - 1) = (m : Int) := by rw [IntKind.wrap_i64]; omega
          have e2 : ((m : Int) + 1).toNat = m + 1 := by omega
          obtain ⟨⟨xk, xv⟩, hx⟩ : ∃ x, l''[m]? = some x := ⟨_, List.getElem?_eq_getElem (by omega)⟩
          obtain ⟨⟨yk, yv⟩, hy⟩ : ∃ y, l''[m + 1]? = some y := ⟨_, List.getElem?_eq_getElem (by omega)⟩
          have hglt := hRx.lt
          have f0 : ∀ y, Below wr.heap.size wr y → y.cell? ⟨g, m * 2, none⟩ = some (.int .i64 xk) := fun y h => ((hRx.later hglt h).cell hx).1
          have f1 : ∀ y, Below wr.heap.size wr y → y.cell? ⟨g, m * 2 + 1, none⟩ = some (.int .i64 xv) := fun y h => ((hRx.later hglt h).cell hx).2
          have f2 : ∀ y, Below wr.heap.size wr y → y.cell? ⟨g, (m + 1) * 2, none⟩ = some (.int .i64 yk) := fun y h => ((hRx.later hglt h).cell hy).1
          have f3 : ∀ y, Below wr.heap.size wr y → y.cell? ⟨g, (m + 1) * 2 + 1, none⟩ = some (.int .i64 yv) := fun y h => ((hRx.later hglt h).cell hy).2
          have i0 : (m : Int) < (n : Int) := by omega
          have i1 : (m : Int) + 1 < (n : Int) := by omega
          have i2 : (0 : Int) ≤ (m : Int) + 1 := by omega
          have i3 : m < n := by omega
          have i4 : m + 1 < n := by omega
          have i5 : (0 : Int) ≤ (m : Int) := by omega
          have e3 : IntKind.i64.wrap (m : Int) = (m : Int) := by rw [IntKind.wrap_i64]; omega
          by_cases hxy : xv < yv
          · have y1 : decide (cmpv yv xv < 0) = true := decide_eq_true ((cmpv_neg yv xv).2 hxy)
            go_upto_region 4 with fail
            go_region_held3 (fun w' => Below wr.heap.size wr w') (repeat (first | assumption | exact Below.refl _ _ | apply Below.drew)) (first
              | (go_at_call 95; refine (cmp_rest _ _ _ _ _).mono ?_; rintro e y ⟨rfl, hy1⟩; have hk1 : Below wr.heap.size wr y := Below.trans (by assumption) (hy1.mono (Below.size (by assumption)))))
            clear f0 f1 f2 f3
            go_upto_region 6 with fail
            have hRy := hRx.later hglt hk1
            have c0 := (hRy.cell hx).1
            have c1 := (hRy.cell hx).2
            have c2 := (hRy.cell hy).1
            have c3 := (hRy.cell hy).2
            have d0 := hRy.frozen (m * 2)
            have d1 := hRy.frozen (m * 2 + 1)
            have d2 := hRy.frozen ((m + 1) * 2)
            have d3 := hRy.frozen ((m + 1) * 2 + 1)
            simp only at c0 c1 c2 c3
            refine start_ (n := 18) (S := fun w' => w' = y.drew) (ds := [15, 17]) #[false, false, false, false, false, false, false, false, false, false, false, false, false, false, false, false, false, false] (by kernel_rfl) rfl rfl rfl (fun hHeld => ?_)
            refine pure_ (i := 0) (N := some 37) (v := ?_) (a' := ?_) #[true, false, false, false, false, false, false, false, false, false, false, false, false, false, false, false, false, false] rfl rfl (by kernel_rfl) (fun _ _ _ h => h) (Or.inl ⟨by rfl, ?_⟩) ?_ ?_
            rotate_left
            · intro w'
              go_simp
              with_reducible rfl
            rotate_left
            · simp only [Act.put, List.setIfInBounds_toArray, List.set_cons_zero, List.set_cons_succ, i64_w, i32_w]
              rfl
            refine pure_ (i := 1) (N := some 38) (v := ?_) (a' := ?_) #[true, true, false, false, false, false, false, false, false, false, false, false, false, false, false, false, false, false] rfl rfl (by kernel_rfl) (fun _ _ _ h => h) (Or.inl ⟨by rfl, ?_⟩) ?_ ?_
            rotate_left
            · intro w'
              go_simp
              with_reducible rfl
            rotate_left
            · simp only [Act.put, List.setIfInBounds_toArray, List.set_cons_zero, List.set_cons_succ, i64_w, i32_w]
              rfl
            refine pure_ (i := 2) (N := some 39) (v := ?_) (a' := ?_) #[true, true, true, false, false, false, false, false, false, false, false, false, false, false, false, false, false, false] rfl rfl (by kernel_rfl) (fun _ _ _ h => h) (Or.inl ⟨by rfl, ?_⟩) ?_ ?_
            rotate_left
            · intro w'
              go_simp
              with_reducible rfl
            rotate_left
            · simp only [Act.put, List.setIfInBounds_toArray, List.set_cons_zero, List.set_cons_succ, i64_w, i32_w]
              rfl
            refine pure_ (i := 3) (N := some 40) (v := ?_) (a' := ?_) #[true, true, true, true, false, false, false, false, false, false, false, false, false, false, false, false, false, false] rfl rfl (by kernel_rfl) (fun _ _ _ h => h) (Or.inl ⟨by rfl, ?_⟩) ?_ ?_
            rotate_left
            · intro w'
              go_simp
              with_reducible rfl
            rotate_left
            · simp only [Act.put, List.setIfInBounds_toArray, List.set_cons_zero, List.set_cons_succ, i64_w, i32_w]
              rfl
            refine pure_ (i := 4) (N := some 41) (v := ?_) (a' := ?_) #[true, true, true, true, true, false, false, false, false, false, false, false, false, false, false, false, false, false] rfl rfl (by kernel_rfl) (fun _ _ _ h => h) (Or.inl ⟨by rfl, ?_⟩) ?_ ?_
            rotate_left
            · intro w'
              go_simp
              with_reducible rfl
            rotate_left
            · simp only [Act.put, List.setIfInBounds_toArray, List.set_cons_zero, List.set_cons_succ, i64_w, i32_w]
              rfl
            refine pure_ (i := 5) (N := some 42) (v := ?_) (a' := ?_) #[true, true, true, true, true, true, false, false, false, false, false, false, false, false, false, false, false, false] rfl rfl (by kernel_rfl) (fun _ _ _ h => h) (Or.inl ⟨by rfl, ?_⟩) ?_ ?_
            rotate_left
            · intro w'
              go_simp
              with_reducible rfl
            rotate_left
            · simp only [Act.put, List.setIfInBounds_toArray, List.set_cons_zero, List.set_cons_succ, i64_w, i32_w]
              rfl
            refine pure_ (i := 6) (N := some 43) (v := ?_) (a' := ?_) #[true, true, true, true, true, true, true, false, false, false, false, false, false, false, false, false, false, false] rfl rfl (by kernel_rfl) (fun _ _ _ h => h) (Or.inl ⟨by rfl, ?_⟩) ?_ ?_
            rotate_left
            · intro w'
              go_simp
              with_reducible rfl
            rotate_left
            · simp only [Act.put, List.setIfInBounds_toArray, List.set_cons_zero, List.set_cons_succ, i64_w, i32_w]
              rfl
            refine pure_ (i := 7) (N := some 44) (v := ?_) (a' := ?_) #[true, true, true, true, true, true, true, true, false, false, false, false, false, false, false, false, false, false] rfl rfl (by kernel_rfl) (fun _ _ _ h => h) (Or.inl ⟨by rfl, ?_⟩) ?_ ?_
            rotate_left
            · intro w'
              go_simp
              with_reducible rfl
            rotate_left
            · simp only [Act.put, List.setIfInBounds_toArray, List.set_cons_zero, List.set_cons_succ, i64_w, i32_w]
              rfl
            refine pure_ (i := 8) (N := some 45) (v := ?_) (a' := ?_) #[true, true, true, true, true, true, true, true, true, false, false, false, false, false, false, false, false, false] rfl rfl (by kernel_rfl) (fun _ _ _ h => h) (Or.inl ⟨by rfl, ?_⟩) ?_ ?_
            rotate_left
            · intro w'
              go_simp
              with_reducible rfl
            rotate_left
            · simp only [Act.put, List.setIfInBounds_toArray, List.set_cons_zero, List.set_cons_succ, i64_w, i32_w]
              rfl
            refine take_ (i := 9) (N := some 46) (v := ?_) (a' := ?_) #[true, true, true, true, true, true, true, true, true, true, false, false, false, false, false, false, false, false] rfl rfl (by kernel_rfl) (fun _ _ _ h => h) (Or.inl ⟨by rfl, ?_⟩) hHeld ?_ ?_
            rotate_left
            · rintro w' rfl
              go_simp
              with_reducible rfl
            rotate_left
            · simp only [Act.put, List.setIfInBounds_toArray, List.set_cons_zero, List.set_cons_succ, i64_w, i32_w]
              rfl
            refine pure_ (i := 10) (N := some 47) (v := ?_) (a' := ?_) #[true, true, true, true, true, true, true, true, true, true, true, false, false, false, false, false, false, false] rfl rfl (by kernel_rfl) (fun _ _ _ h => h) (Or.inl ⟨by rfl, ?_⟩) ?_ ?_
            rotate_left
            · intro w'
              go_simp
              with_reducible rfl
            rotate_left
            · simp only [Act.put, List.setIfInBounds_toArray, List.set_cons_zero, List.set_cons_succ, i64_w, i32_w]
              rfl
            refine pure_ (i := 11) (N := some 48) (v := ?_) (a' := ?_) #[true, true, true, true, true, true, true, true, true, true, true, true, false, false, false, false, false, false] rfl rfl (by kernel_rfl) (fun _ _ _ h => h) (Or.inl ⟨by rfl, ?_⟩) ?_ ?_
            rotate_left
            · intro w'
              go_simp
              with_reducible rfl
            rotate_left
            · simp only [Act.put, List.setIfInBounds_toArray, List.set_cons_zero, List.set_cons_succ, i64_w, i32_w]
              rfl
            refine pure_ (i := 12) (N := some 49) (v := ?_) (a' := ?_) #[true, true, true, true, true, true, true, true, true, true, true, true, true, false, false, false, false, false] rfl rfl (by kernel_rfl) (fun _ _ _ h => h) (Or.inl ⟨by rfl, ?_⟩) ?_ ?_
            rotate_left
            · intro w'
              go_simp
              with_reducible rfl
            rotate_left
            · simp only [Act.put, List.setIfInBounds_toArray, List.set_cons_zero, List.set_cons_succ, i64_w, i32_w]
              rfl
            refine take_ (i := 13) (N := some 50) (v := ?_) (a' := ?_) #[true, true, true, true, true, true, true, true, true, true, true, true, true, true, false, false, false, false] rfl rfl (by kernel_rfl) (fun _ _ _ h => h) (Or.inl ⟨by rfl, ?_⟩) hHeld ?_ ?_
            rotate_left
            · rintro w' rfl
              go_simp
              with_reducible rfl
            rotate_left
            · simp only [Act.put, List.setIfInBounds_toArray, List.set_cons_zero, List.set_cons_succ, i64_w, i32_w]
              rfl
            refine pure_ (i := 14) (N := some 51) (v := ?_) (a' := ?_) #[true, true, true, true, true, true, true, true, true, true, true, true, true, true, true, false, false, false] rfl rfl (by kernel_rfl) (fun _ _ _ h => h) (Or.inl ⟨by rfl, ?_⟩) ?_ ?_
            rotate_left
            · intro w'
              go_simp
              with_reducible rfl
            rotate_left
            · simp only [Act.put, List.setIfInBounds_toArray, List.set_cons_zero, List.set_cons_succ, i64_w, i32_w]
              rfl
            refine last_ (i := 15) (N := none) #[true, true, true, true, true, true, true, true, true, true, true, true, true, true, true, true, false, false] rfl rfl (by kernel_rfl) (by decide) (fun K hK => ?_)
            refine skip_ (w1 := ?_) (by rfl) rfl ?_ ?_
            rotate_left
            · go_simp
              with_reducible rfl
            refine hK.out _ _ ?_
            clear hK K
            refine pure_ (i := 16) (N := some 52) (v := ?_) (a' := ?_) #[true, true, true, true, true, true, true, true, true, true, true, true, true, true, true, true, true, false] rfl rfl (by kernel_rfl) (fun _ _ _ h => h) (Or.inl ⟨by rfl, ?_⟩) ?_ ?_
            rotate_left
            · intro w'
              go_simp
              with_reducible rfl
            rotate_left
            · simp only [Act.put, List.setIfInBounds_toArray, List.set_cons_zero, List.set_cons_succ, i64_w, i32_w]
              rfl
            refine last_ (i := 17) (N := none) #[true, true, true, true, true, true, true, true, true, true, true, true, true, true, true, true, true, true] rfl rfl (by kernel_rfl) (by decide) (fun K hK => ?_)
            refine skip_ (w1 := ?_) (by rfl) rfl ?_ ?_
            rotate_left
            · go_simp
              with_reducible rfl
            refine hK.out _ _ ?_
            clear hK K
            refine done_ (by kernel_rfl) ?_
            go_wp2
            go_roundg m
            case measure => have := HJ.out; omega
            case rel => exact ⟨m, _, rfl, by omega, (hRy.drew.put (m + 1) (xk, xv)).put m (yk, yv), by simp; exact hlx, grown_trans hgx (grown_trans (grown_below hk1) (grown_trans (B := y.drew) ⟨rfl, rfl, rfl, Nat.le_refl _, fun _ _ _ => rfl⟩ (grown_trans (grown_set _ _ _ _) (grown_trans (grown_set _ _ _ _) (grown_trans (grown_set _ _ _ _) (grown_set _ _ _ _)))))), (by
              have := HI.out
              rw [ins_go hj hx hy hxy] at this
              simp only [swp, hx, hy] at this
              exact this), rfl⟩
          · have y1 : decide (cmpv yv xv < 0) = false := decide_eq_false (fun h => hxy ((cmpv_neg yv xv).1 h))
            go_upto_region 4 with fail
            go_region_held3 (fun w' => Below wr.heap.size wr w') (repeat (first | assumption | exact Below.refl _ _ | apply Below.drew)) (first
              | (go_at_call 95; refine (cmp_rest _ _ _ _ _).mono ?_; rintro e y ⟨rfl, hy1⟩; have hk1 : Below wr.heap.size wr y := Below.trans (by assumption) (hy1.mono (Below.size (by assumption)))))
            go_wp2
            go_roundg (b - i)
            case measure => have := HK.out; omega
            case rel => exact ⟨i + 1, l'', by go_num, by omega, hRx.later hglt hk1, hlx, grown_trans hgx (grown_below hk1), (by
              have h1 := HO.out
              have h2 := HI.out
              rw [ins_stop hx hy (show ¬ xv < yv by omega)] at h2
              rw [show b - i = (b - (i + 1)) + 1 from by omega, outer, ← h2] at h1
              exact h1), (show b + 1 - (i + 1) = b - i by omega)⟩
        · have y0 : decide ((a : Int) < (j : Int)) = false := decide_eq_false (by omega)
          go_upto_region 4 with fail
          go_quiet (fail)
          go_wp2
          go_roundg (b - i)
          case measure => have := HK.out; omega
          case rel => exact ⟨i + 1, l'', by go_num, by omega, hRx, hlx, grown_trans hgx ⟨rfl, rfl, rfl, Nat.le_refl _, fun _ _ _ => rfl⟩, (by
              have h1 := HO.out
              have h2 := HI.out
              have h3 : ins a j l'' = l'' := by
                cases j with
                | zero => rfl
                | succ m => unfold ins; rw [if_neg (by omega)]
              rw [h3] at h2
              rw [show b - i = (b - (i + 1)) + 1 from by omega, outer, ← h2] at h1
              exact h1), (show b + 1 - (i + 1) = b - i by omega)⟩
    · have z0 : ¬ (i : Int) < (b : Int) := by omega
      go_wp2
      go_end0
      refine ⟨rfl, hg', ?_⟩
      have := HO.out
      rw [show b - i = 0 from by omega] at this
      rw [← this]
      exact hR'
end Go.Proofs.Num

namespace Go.Proofs.Num
open Go.RowKit Go.Proofs.YtdjnneflpkllmaaDoorW.PrintLast Go.Proofs.YtdjnneflpkllmaaDoorW.PrintWords
set_option linter.unusedVariables false
set_option linter.unusedSimpArgs false
set_option maxRecDepth 100000 in
theorem div4 (w : World) : Calls Tryd.prog 112 #[.int .u64 0, .int .u64 30, .int .u64 7] w fun e w' => e = .returned (.tuple #[.int .u64 4, .int .u64 2]) ∧ ∃ n, w' = w.drewN n := by
  go_enter Tryd.func112, Tryd.ntmps112
  go_wp2
  go_quiet (fail)
  go_wp2
  go_ret2
  exact ⟨by rfl, _, rfl⟩
set_option maxRecDepth 100000 in
theorem div1 (w : World) : Calls Tryd.prog 112 #[.int .u64 0, .int .u64 10, .int .u64 7] w fun e w' => e = .returned (.tuple #[.int .u64 1, .int .u64 3]) ∧ ∃ n, w' = w.drewN n := by
  go_enter Tryd.func112, Tryd.ntmps112
  go_wp2
  go_quiet (fail)
  go_wp2
  go_ret2
  exact ⟨by rfl, _, rfl⟩
set_option maxRecDepth 100000 in
theorem mul3 (w : World) : Calls Tryd.prog 114 #[.int .u64 10, .int .u64 3] w fun e w' => e = .returned (.tuple #[.int .u64 0, .int .u64 30]) ∧ w' = w := by
  go_enter Tryd.func114, Tryd.ntmps114
  go_wp2
  go_ret2
  exact ⟨by rfl, rfl⟩
set_option maxRecDepth 100000 in
theorem mul1 (w : World) : Calls Tryd.prog 114 #[.int .u64 10, .int .u64 1] w fun e w' => e = .returned (.tuple #[.int .u64 0, .int .u64 10]) ∧ w' = w := by
  go_enter Tryd.func114, Tryd.ntmps114
  go_wp2
  go_ret2
  exact ⟨by rfl, rfl⟩
theorem share4 (w : World) : Calls Tryd.prog 93 #[.int .i64 10, .int .i64 3, .int .i64 7] w fun e w' => e = .returned (.tuple #[.int .i64 4, .int .i64 2]) ∧ ∃ n, w' = w.drewN n := by
  go_enter Tryd.func93, Tryd.ntmps93
  go_wp2_with (first
    | (go_at_call 114; refine (mul3 _).mono ?_; rintro e w1 ⟨rfl, rfl⟩)
    | (go_at_call 112; refine (div4 _).mono ?_; rintro e w1 ⟨rfl, n, rfl⟩))
  go_ret2
  exact ⟨by rfl, _, rfl⟩
theorem share1 (w : World) : Calls Tryd.prog 93 #[.int .i64 10, .int .i64 1, .int .i64 7] w fun e w' => e = .returned (.tuple #[.int .i64 1, .int .i64 3]) ∧ ∃ n, w' = w.drewN n := by
  go_enter Tryd.func93, Tryd.ntmps93
  go_wp2_with (first
    | (go_at_call 114; refine (mul1 _).mono ?_; rintro e w1 ⟨rfl, rfl⟩)
    | (go_at_call 112; refine (div1 _).mono ?_; rintro e w1 ⟨rfl, n, rfl⟩))
  go_ret2
  exact ⟨by rfl, _, rfl⟩
theorem stable_small (g c : Nat) (l : List (Int × Int)) (W : World) (hR : Rst W g l) (hl : l.length < 20) (hc : l.length ≤ c) :
    Calls Tryd.prog 117 #[.slice (some ⟨g, 0, none⟩) l.length c, .int .i64 l.length, .func (.func 95) #[] #[]] W fun e w' => e = .returned (.tuple #[]) ∧ W.grownBy w' (some g) ∧ Rst w' g (outer 0 (l.length - 1) 1 l) := by
  have hi := insertion g 0 l.length c l W hR (Nat.zero_le _) (Nat.le_refl _) hc (by omega)
  obtain ⟨n, hn⟩ : ∃ n, n = l.length := ⟨_, rfl⟩
  rw [← hn] at hl hc hi ⊢
  have HI := Lib.hid hi
  clear hi hn hR
  have z0 : ¬ (20 : Int) ≤ (n : Int) := by omega
  have z1 : ¬ (20 : Int) < (n : Int) := by omega
  go_enter Tryd.func117, Tryd.ntmps117
  go_wp2
  refine wp_loop_once ?_
  go_wp2_with (go_at_call 128; refine HI.out.mono ?_; rintro e w1 ⟨rfl, hg, hR1⟩)
  refine wp_loop_once ?_
  go_wp2
  go_end0
  exact ⟨rfl, hg, hR1⟩
theorem weighed_alive (b : Nat) (w : World) (c0 : w.cell? ⟨b, 0, none⟩ = some (.int .i64 3)) (c1 : w.cell? ⟨b, 1, none⟩ = some (.int .i64 3)) (c2 : w.cell? ⟨b, 2, none⟩ = some (.int .i64 1)) :
    Calls Tryd.prog 92 #[.int .i64 10, .slice (some ⟨b, 0, none⟩) 3 3] w fun e w' => e = .returned (.tuple #[.int .i64 7, .int .i64 0]) ∧ ∃ n, w' = w.drewN n := by
  go_enter Tryd.func92, Tryd.ntmps92
  go_wp2
  refine wp_loop_rounds 4 ?_
  change Code.wp _ _ _ _ _
  go_wp2
  change Code.wp _ _ _ _ _
  go_wp2
  change Code.wp _ _ _ _ _
  go_wp2
  change Code.wp _ _ _ _ _
  go_wp2
  go_ret2
  exact ⟨rfl, 0, rfl⟩
theorem cell_two (w : World) (a b : Value) (t : TypeId) : ∀ j u, ([a, b] : List Value)[j]? = some u → (w.alloc (.cells #[a, b] t)).cell? ((⟨w.heap.size, 0, none⟩ : Addr).add j) = some u := by
  intro j u h
  have hh : (w.alloc (.cells #[a, b] t)).heap[w.heap.size]? = some (.cells #[a, b] t) := by show (w.heap.push _)[w.heap.size]? = _; simp
  match j, h with
  | 0, h => injection h with h; subst h; rw [show (⟨w.heap.size, 0, none⟩ : Addr).add 0 = ⟨w.heap.size, 0, none⟩ from rfl]; simp only [World.cell?, hh]; rfl
  | 1, h => injection h with h; subst h; rw [show (⟨w.heap.size, 0, none⟩ : Addr).add 1 = ⟨w.heap.size, 1, none⟩ from rfl]; simp only [World.cell?, hh]; rfl
  | n + 2, h => simp at h
theorem cell_two' (w : World) (s : Nat) (hs : w.heap.size = s) (a b : Value) (t : TypeId) : ∀ j u, ([a, b] : List Value)[j]? = some u → (w.alloc (.cells #[a, b] t)).cell? ((⟨s, 0, none⟩ : Addr).add j) = some u := by
  subst hs
  exact cell_two w a b t
theorem size_set' (W : World) (m p o : Nat) (v : Value) : ((W.drewN m).setCell ⟨p, o, none⟩ v).heap.size = W.heap.size := by simp [World.setCell, World.drewN]
theorem info101 : (Tryd.prog.info? 101).map (fun i => (i.zero, i.size, i.bytes)) = some (some (.agg #[.int .i64 0, .int .i64 0]), 2, 16) := by kernel_rfl
theorem sort3 (g c : Nat) (x y z : Int × Int) (W : World) (hR : Rst W g [x, y, z]) (hc : 3 ≤ c) :
    Calls Tryd.prog 94 #[.slice (some ⟨g, 0, none⟩) 3 c, .func (.func 95) #[] #[]] W fun e w' => e = .returned (.tuple #[]) ∧ W.grownBy w' (some g) ∧ Rst w' g (outer 0 2 1 [x, y, z]) := by
  have hs : Calls Tryd.prog 117 #[.slice (some ⟨g, 0, none⟩) 3 c, .int .i64 3, .func (.func 95) #[] #[]] W fun e w' => e = .returned (.tuple #[]) ∧ W.grownBy w' (some g) ∧ Rst w' g (outer 0 2 1 [x, y, z]) :=
    stable_small g c [x, y, z] W hR (show 3 < 20 by decide) hc
  go_enter Tryd.func94, Tryd.ntmps94
  go_wp2_with (go_at_call 117; refine hs.mono ?_; rintro e w1 ⟨rfl, hg, hR1⟩)
  go_end0
  exact ⟨rfl, hg, hR1⟩
theorem rst_own {W : World} {base e n c g : Nat} {l : List (Int × Int)} (h : W.ownsRow base e 2 (.slice (some ⟨g, 0, none⟩) n c) n (l.flatMap fun x => [.int .i64 x.1, .int .i64 x.2])) (hn : l.length = n) : Rst W g l ∧ n ≤ c ∧ base ≤ g := by
  obtain ⟨_, ⟨h0, _⟩ | ⟨g', cap, cur, e', hg, hh, hc, hm, hs, ht⟩⟩ := h
  · cases h0
  · injection e' with e1 _ e2
    injection e1 with e1
    injection e1 with e1
    subst e1 e2
    refine ⟨⟨cur, e, hh, by rw [hs]; omega, ?_⟩, hc, hg⟩
    have fl : ∀ (l : List (Int × Int)) (i : Nat) (x : Int × Int), l[i]? = some x → (l.flatMap fun x => [Value.int .i64 x.1, .int .i64 x.2])[i * 2]? = some (.int .i64 x.1) ∧ (l.flatMap fun x => [Value.int .i64 x.1, .int .i64 x.2])[i * 2 + 1]? = some (.int .i64 x.2) := by
      intro l
      induction l with
      | nil => intro i x h; cases h
      | cons y ys ih =>
        intro i x h
        cases i with
        | zero => injection h with h; subst h; exact ⟨rfl, rfl⟩
        | succ i =>
          have := ih i x h
          rw [show (i + 1) * 2 = i * 2 + 1 + 1 from by omega]
          exact this
    intro i x hx
    have hi : i < n := by
      rcases Nat.lt_or_ge i l.length with h | h
      · omega
      · rw [List.getElem?_eq_none h] at hx; cases hx
    obtain ⟨h0, h1⟩ := fl l i x hx
    rw [← ht, List.getElem?_take, if_pos (by omega), Array.getElem?_toList] at h0 h1
    exact ⟨h0, h1⟩
/-- The state between two rounds. -/
structure Ap (w W : World) (q0 q1 q2 : Int) (v : Value) (k : Nat) (xs : List Value) : Prop where
  below : Below w.heap.size w W
  parts : W.heap[w.heap.size]? = some (.cells #[.int .i64 q0, .int .i64 q1, .int .i64 q2] 3 (0, 0))
  rests : W.ownsRow (w.heap.size + 1) 101 2 v k xs
  size : w.heap.size + 1 ≤ W.heap.size
theorem Ap.cell {w W : World} {q0 q1 q2 : Int} {v : Value} {k : Nat} {xs : List Value} (h : Ap w W q0 q1 q2 v k xs) :
    W.cell? ⟨w.heap.size, 0, none⟩ = some (.int .i64 q0) ∧ W.cell? ⟨w.heap.size, 1, none⟩ = some (.int .i64 q1) ∧ W.cell? ⟨w.heap.size, 2, none⟩ = some (.int .i64 q2) ∧ ∀ i, W.frozen? ⟨w.heap.size, i, none⟩ = false := by
  have hh := h.parts
  exact ⟨by simp [World.cell?, hh], by simp [World.cell?, hh], by simp [World.cell?, hh], fun i => by simp [World.frozen?, hh]⟩
theorem own_ne {W : World} {base e size n p : Nat} {v : Value} {xs : List Value} (h : W.ownsRow base e size v n xs) (hp : p < base) : v.ownBlock ≠ some p := by
  rcases h.2 with ⟨rfl, _⟩ | ⟨g, cap, cur, rfl, hg, _⟩
  · simp [Value.ownBlock]
  · simp [Value.ownBlock]; omega
theorem Ap.set {w W : World} {q0 q1 q2 : Int} {v : Value} {k : Nat} {xs : List Value} (h : Ap w W q0 q1 q2 v k xs) (m o : Nat) (x : Int) :
    ((W.drewN m).setCell ⟨w.heap.size, o, none⟩ (.int .i64 x)).ownsRow (w.heap.size + 1) 101 2 v k xs :=
  h.rests.kept (row := some w.heap.size) ⟨rfl, rfl, rfl, by simp [World.setCell, World.drewN], fun j _ hj => Below.heap_setCell _ _ _ _ (fun e => hj (by rw [e]))⟩ (.inr (own_ne h.rests (by omega)))
theorem Ap.next {w W w2 : World} {q0 q1 q2 : Int} {v v' : Value} {k k' : Nat} {xs xs' : List Value} (h : Ap w W q0 q1 q2 v k xs) (m o : Nat) (x : Int) (ob : Obj) (r0 r1 r2 : Int)
    (hq : (#[.int .i64 q0, .int .i64 q1, .int .i64 q2] : Array Value).setIfInBounds o (.int .i64 x) = #[.int .i64 r0, .int .i64 r1, .int .i64 r2])
    (ho : w2.ownsRow (w.heap.size + 1) 101 2 v' k' xs') (hg : (((W.drewN m).setCell ⟨w.heap.size, o, none⟩ (.int .i64 x)).alloc ob).grownBy w2 v.ownBlock) : Ap w w2 r0 r1 r2 v' k' xs' := by
  have hs := h.size
  have hs1 : (((W.drewN m).setCell ⟨w.heap.size, o, none⟩ (.int .i64 x)).alloc ob).heap.size = W.heap.size + 1 := by simp [World.setCell, World.drewN, World.alloc]
  have hb : Below w.heap.size w (((W.drewN m).setCell ⟨w.heap.size, o, none⟩ (.int .i64 x)).alloc ob) := ((below_draws h.below m).setCell (Nat.le_refl _) _).alloc (by simp [World.setCell, World.drewN]; omega) _
  refine ⟨hb.grown hg (by rw [hs1]; omega) (fun j e => ?_), ?_, ho, ?_⟩
  · rcases h.rests.2 with ⟨rfl, _⟩ | ⟨g, cap, cur, rfl, hgg, _⟩
    · cases e
    · simp [Value.ownBlock] at e; omega
  · have e : (((W.drewN m).setCell ⟨w.heap.size, o, none⟩ (.int .i64 x)).alloc ob).heap[w.heap.size]? = some (.cells #[.int .i64 r0, .int .i64 r1, .int .i64 r2] 3 (0, 0)) := by
      rw [Below.heap_alloc _ _ _ (by simp [World.setCell, World.drewN]; omega)]
      simp only [World.setCell]
      rw [Array.getElem?_modify, if_pos rfl, show (W.drewN m).heap[w.heap.size]? = _ from h.parts]
      simp [hq]
    rw [← e]
    exact hg.block _ (by rw [hs1]; omega) (own_ne h.rests (by omega)).symm
  · have := hg.size
    rw [hs1] at this
    omega
set_option maxRecDepth 100000 in
set_option maxHeartbeats 3200000 in
theorem apportion_alive (b : Nat) (w : World) (hb : b < w.heap.size) (c0 : w.cell? ⟨b, 0, none⟩ = some (.int .i64 3)) (c1 : w.cell? ⟨b, 1, none⟩ = some (.int .i64 3)) (c2 : w.cell? ⟨b, 2, none⟩ = some (.int .i64 1)) :
    Calls Tryd.prog 47 #[.int .i64 10, .slice (some ⟨b, 0, none⟩) 3 3] w fun e w' => ∃ p, e = .returned (.tuple #[.slice (some ⟨p, 0, none⟩) 3 3, .int .i64 0]) ∧ p < w'.heap.size ∧ w'.cell? ⟨p, 0, none⟩ = some (.int .i64 4) ∧ w'.cell? ⟨p, 1, none⟩ = some (.int .i64 4) ∧ w'.cell? ⟨p, 2, none⟩ = some (.int .i64 2) ∧ Below w.heap.size w w' := by
  obtain ⟨i0, hi, hz0, hz1, hz2⟩ := info_parts info101
  have C0 := Lib.hid c0
  have C1 := Lib.hid c1
  have C2 := Lib.hid c2
  have hmk : ∀ w, (Instr.makeSlice 29 (.int .i64 3) (.int .i64 3)).run Tryd.prog w = .ok (.slice (some ⟨w.heap.size, 0, none⟩) 3 3) (w.alloc (.cells #[.int .i64 0, .int .i64 0, .int .i64 0] 3)) := fun _ => by kernel_rfl
  go_enter Tryd.func47, Tryd.ntmps47
  go_wp2_with (first
    | (go_at_call 92; refine (weighed_alive b _ C0.out C1.out C2.out).mono ?_; rintro e w1 ⟨rfl, n, rfl⟩))
  clear hmk
  have hb1 : Below w.heap.size w ((w.drewN n).alloc (.cells #[.int .i64 0, .int .i64 0, .int .i64 0] 3)) := (below_draws (Below.refl _ _) n).alloc (Nat.le_refl _) _
  have hp1 : ((w.drewN n).alloc (.cells #[.int .i64 0, .int .i64 0, .int .i64 0] 3)).heap[w.heap.size]? = some (.cells #[.int .i64 0, .int .i64 0, .int .i64 0] 3 (0, 0)) := by simp [World.alloc]
  have hs1 : w.heap.size < ((w.drewN n).alloc (.cells #[.int .i64 0, .int .i64 0, .int .i64 0] 3)).heap.size := by simp
  generalize ((w.drewN n).alloc (.cells #[.int .i64 0, .int .i64 0, .int .i64 0] 3)) = W1 at hb1 hp1 hs1 ⊢
  have HB1 := Lib.hid hb1
  have HS1 := Lib.hid hs1
  have b0 : W1.cell? ⟨b, 0, none⟩ = some (.int .i64 3) := (hb1.cell (p := ⟨b, 0, none⟩) hb).trans c0
  have q0 : W1.cell? ⟨w.heap.size, 0, none⟩ = some (.int .i64 0) := by simp [World.cell?, hp1]
  have q1 : W1.frozen? ⟨w.heap.size, 0, none⟩ = false := by simp [World.frozen?, hp1]
  have A0 : Ap w W1 0 0 0 (.slice none 0 0) 0 [] := ⟨hb1, hp1, World.ownsRow_nil _ _ _ _, hs1⟩
  clear hb1 hp1 hs1 HB1 HS1 b0 q0 q1 c0 c1 c2
  refine wp_loop_rounds 4 ?_
  change Code.wp _ _ _ _ _
  obtain ⟨p0, p1, p2, pf⟩ := A0.cell
  have pf0 := pf 0
  have b0 : W1.cell? ⟨b, 0, none⟩ = some (.int .i64 3) := (A0.below.cell (p := ⟨b, 0, none⟩) hb).trans C0.out
  clear pf
  have hA0 := Lib.hid A0
  clear A0
  go_wp2_with (first
    | (go_at_call 93; refine (share4 _).mono ?_; rintro e w1 ⟨rfl, n1, rfl⟩)
    | (at_builtin; refine wpList_append_own _ rfl _ _ 98 rfl (w.heap.size + 1) 101 i0 (.agg #[.int .i64 0, .int .i64 0]) 2 16 Tryd.underlying98 hi hz0 hz1 hz2 rfl (by decide) _ _ _ rfl ((hA0.out.set n1 0 4).alloc _) ⟨W1.heap.size, 0, none⟩ 1 1 [.int .i64 0, .int .i64 2] rfl rfl (cell_two' _ _ (size_set' _ _ _ _ _) _ _ _) (by simp [Value.oneCell']) (by unfold maxLen; omega) (by omega) (by have := hA0.out.size; simp; omega) ?_; intro v1 W2 hown1 hgrow1 _; have A1 := hA0.out.next n1 0 4 _ 4 0 0 rfl hown1 hgrow1))
  clear b0 pf0 p0 p1 p2
  change Code.wp _ _ _ _ _
  obtain ⟨g1, k1, rfl⟩ := ownsRow_succ hown1
  obtain ⟨p0, p1, p2, pf⟩ := A1.cell
  have pf0 := pf 1
  have b0 : W2.cell? ⟨b, 1, none⟩ = some (.int .i64 3) := (A1.below.cell (p := ⟨b, 1, none⟩) hb).trans C1.out
  clear pf hown1 hgrow1
  have hA1 := Lib.hid A1
  clear A1
  go_wp2_with (first
    | (go_at_call 93; refine (share4 _).mono ?_; rintro e w1 ⟨rfl, n2, rfl⟩)
    | (at_builtin; refine wpList_append_own _ rfl _ _ 98 rfl (w.heap.size + 1) 101 i0 (.agg #[.int .i64 0, .int .i64 0]) 2 16 Tryd.underlying98 hi hz0 hz1 hz2 rfl (by decide) _ _ _ rfl ((hA1.out.set n2 1 4).alloc _) ⟨W2.heap.size, 0, none⟩ 1 1 [.int .i64 1, .int .i64 2] rfl rfl (cell_two' _ _ (size_set' _ _ _ _ _) _ _ _) (by simp [Value.oneCell']) (by unfold maxLen; omega) (by omega) (by have := hA1.out.size; simp; omega) ?_; intro v2 W3 hown2 hgrow2 _; have A2 := hA1.out.next n2 1 4 _ 4 4 0 rfl hown2 hgrow2))
  clear b0 pf0 p0 p1 p2
  change Code.wp _ _ _ _ _
  obtain ⟨g2, k2, rfl⟩ := ownsRow_succ hown2
  obtain ⟨p0, p1, p2, pf⟩ := A2.cell
  have pf0 := pf 2
  have b0 : W3.cell? ⟨b, 2, none⟩ = some (.int .i64 1) := (A2.below.cell (p := ⟨b, 2, none⟩) hb).trans C2.out
  clear pf hown2 hgrow2
  have hA2 := Lib.hid A2
  clear A2
  go_wp2_with (first
    | (go_at_call 93; refine (share1 _).mono ?_; rintro e w1 ⟨rfl, n3, rfl⟩)
    | (at_builtin; refine wpList_append_own _ rfl _ _ 98 rfl (w.heap.size + 1) 101 i0 (.agg #[.int .i64 0, .int .i64 0]) 2 16 Tryd.underlying98 hi hz0 hz1 hz2 rfl (by decide) _ _ _ rfl ((hA2.out.set n3 2 1).alloc _) ⟨W3.heap.size, 0, none⟩ 1 1 [.int .i64 2, .int .i64 3] rfl rfl (cell_two' _ _ (size_set' _ _ _ _ _) _ _ _) (by simp [Value.oneCell']) (by unfold maxLen; omega) (by omega) (by have := hA2.out.size; simp; omega) ?_; intro v3 W4 hown3 hgrow3 _; have A3 := hA2.out.next n3 2 1 _ 4 4 1 rfl hown3 hgrow3))
  clear b0 pf0 p0 p1 p2
  obtain ⟨g3, k3, rfl⟩ := ownsRow_succ hown3
  obtain ⟨hR, hk3, hg3⟩ := rst_own (l := [(0, 2), (1, 2), (2, 3)]) hown3 rfl
  have hR' := Lib.hid hR
  have hA3 := Lib.hid A3
  have hglt := hR.lt
  clear hown3 hgrow3 A3 hR
  change Code.wp _ _ _ _ _
  go_upto_region 18 with (first
    | (go_at_call 94; refine (sort3 g3 k3 _ _ _ _ hR'.out hk3).mono ?_; rintro e W5 ⟨rfl, hg5, hR5⟩))
  obtain ⟨p0, p1, p2, pf⟩ := hA3.out.cell
  have ne3 : w.heap.size ≠ g3 := by omega
  have eP : W5.heap[w.heap.size]? = W4.heap[w.heap.size]? := hg5.block _ (by have := hA3.out.size; omega) (by simpa using ne3)
  have P := eP.trans hA3.out.parts
  have hb5 : Below w.heap.size w W5 := hA3.out.below.grown hg5 (by have := hA3.out.size; omega) (fun k e => by cases e; omega)
  have hR5' : Rst W5 g3 [(2, 3), (0, 2), (1, 2)] := hR5
  have z0 := (hR5'.cell (i := 0) rfl).1
  have z1 := (hR5'.cell (i := 0) rfl).2
  have hs5 := hR5'.lt
  simp only [Nat.zero_mul, Nat.zero_add] at z0 z1
  have y2 : W5.cell? ⟨w.heap.size, 2, none⟩ = some (.int .i64 1) := by simp [World.cell?, P]
  have y3 : W5.frozen? ⟨w.heap.size, 2, none⟩ = false := by simp [World.frozen?, P]
  have P' := Lib.hid P
  have hb5' := Lib.hid hb5
  have hs5p : w.heap.size < W5.heap.size := by omega
  clear P eP hR5 hR5' hb5 p0 p1 p2 pf hg5 hA0 hA1 hA2 hA3 hR'
  go_wp2
  refine wp_loop_rounds 2 ?_
  change Code.wp _ _ _ _ _
  go_wp2
  change Code.wp _ _ _ _ _
  go_wp2
  have F : ((W5.setCell ⟨w.heap.size, 2, none⟩ (.int .i64 2)).alloc (.cells #[.int .i64 2, .int .i64 3] 101)).heap[w.heap.size]? = some (.cells #[.int .i64 4, .int .i64 4, .int .i64 2] 3 (0, 0)) := by
    rw [Below.heap_alloc _ _ _ (by simp [World.setCell]; omega)]
    simp only [World.setCell]
    rw [Array.getElem?_modify, if_pos rfl, P'.out]
    rfl
  have hbF : Below w.heap.size w ((W5.setCell ⟨w.heap.size, 2, none⟩ (.int .i64 2)).alloc (.cells #[.int .i64 2, .int .i64 3] 101)) := (hb5'.out.setCell (Nat.le_refl _) _).alloc (by simp [World.setCell]; omega) _
  have F' := Lib.hid F
  clear F
  go_ret2
  have F := F'.out
  exact ⟨w.heap.size, rfl, (Array.getElem?_eq_some_iff.1 F).1, by simp [World.cell?, F], by simp [World.cell?, F], by simp [World.cell?, F], hbF⟩
/-- Two lists of three are the same. -/
theorem same_alive (b p : Nat) (w : World) (c0 : w.cell? ⟨p, 0, none⟩ = some (.int .i64 4)) (c1 : w.cell? ⟨p, 1, none⟩ = some (.int .i64 4)) (c2 : w.cell? ⟨p, 2, none⟩ = some (.int .i64 2))
    (d0 : w.cell? ⟨b, 0, none⟩ = some (.int .i64 4)) (d1 : w.cell? ⟨b, 1, none⟩ = some (.int .i64 4)) (d2 : w.cell? ⟨b, 2, none⟩ = some (.int .i64 2)) :
    Calls Tryd.prog 41 #[.slice (some ⟨p, 0, none⟩) 3 3, .slice (some ⟨b, 0, none⟩) 3 3] w fun e w' => e = .returned (.bool true) ∧ ∃ n, w' = w.drewN n := by
  go_enter Tryd.func41, Tryd.ntmps41
  go_wp2
  refine wp_loop_rounds 4 ?_
  change Code.wp _ _ _ _ _
  go_wp2
  go_quiet (fail)
  go_wp2
  change Code.wp _ _ _ _ _
  go_wp2
  go_quiet (fail)
  go_wp2
  change Code.wp _ _ _ _ _
  go_wp2
  go_quiet (fail)
  go_wp2
  change Code.wp _ _ _ _ _
  go_wp2
  go_ret
  exact ⟨rfl, _, rfl⟩
end Go.Proofs.Num

namespace Go.Proofs
open Go.Shelf
def Tryd.lays105_ren : Go.Shelf.Ren := ⟨fun | 105 => 109 | 212 => 120 | 99 => 121 | 165 => 122 | 166 => 123 | 170 => 124 | 169 => 125 | 263 => 134 | 264 => 114 | 206 => 135 | 240 => 136 | 241 => 137 | 276 => 144 | 277 => 145 | n => n, fun | 9 => 9 | 3 => 3 | 4 => 4 | 20 => 20 | 0 => 0 | 46 => 119 | 109 => 120 | 5 => 5 | 72 => 126 | 76 => 130 | 51 => 143 | 146 => 144 | 53 => 81 | 148 => 112 | 70 => 123 | 37 => 124 | 75 => 129 | 127 => 146 | 164 => 151 | 80 => 133 | n => n, fun | n => n⟩
theorem Tryd.lays105 : Go.Proofs.Lays.n105 Tryd.prog Tryd.lays105_ren := {
  mixed := by kernel_rfl
  f99 := Tryd.func121.trans (congrArg some (by kernel_rfl))
  f105 := Tryd.func109.trans (congrArg some (by kernel_rfl))
  f165 := Tryd.func122.trans (congrArg some (by kernel_rfl))
  f166 := Tryd.func123.trans (congrArg some (by kernel_rfl))
  f169 := Tryd.func125.trans (congrArg some (by kernel_rfl))
  f170 := Tryd.func124.trans (congrArg some (by kernel_rfl))
  f206 := Tryd.func135.trans (congrArg some (by kernel_rfl))
  f212 := Tryd.func120.trans (congrArg some (by kernel_rfl))
  f240 := Tryd.func136.trans (congrArg some (by kernel_rfl))
  f241 := Tryd.func137.trans (congrArg some (by kernel_rfl))
  f263 := Tryd.func134.trans (congrArg some (by kernel_rfl))
  f264 := Tryd.func114.trans (congrArg some (by kernel_rfl))
  f276 := Tryd.func144.trans (congrArg some (by kernel_rfl))
  f277 := Tryd.func145.trans (congrArg some (by kernel_rfl))
  t0 := Tryd.underlying0
  a0 := Tryd.isAgg0
  z0 := Tryd.sizeOf0
  v0 := Tryd.zeroValue0
  t3 := Tryd.underlying3
  a3 := Tryd.isAgg3
  z3 := Tryd.sizeOf3
  v3 := Tryd.zeroValue3
  t4 := Tryd.underlying4
  a4 := Tryd.isAgg4
  z4 := Tryd.sizeOf4
  v4 := Tryd.zeroValue4
  t5 := Tryd.underlying5
  a5 := Tryd.isAgg5
  z5 := Tryd.sizeOf5
  v5 := Tryd.zeroValue5
  t9 := Tryd.underlying9
  a9 := Tryd.isAgg9
  z9 := Tryd.sizeOf9
  v9 := Tryd.zeroValue9
  t20 := Tryd.underlying20
  a20 := Tryd.isAgg20
  z20 := Tryd.sizeOf20
  v20 := Tryd.zeroValue20
  t37 := Tryd.underlying124
  a37 := Tryd.isAgg124
  z37 := Tryd.sizeOf124
  v37 := Tryd.zeroValue124
  t46 := Tryd.underlying119
  a46 := Tryd.isAgg119
  z46 := Tryd.sizeOf119
  v46 := Tryd.zeroValue119
  t51 := Tryd.underlying143
  a51 := Tryd.isAgg143
  z51 := Tryd.sizeOf143
  v51 := Tryd.zeroValue143
  t53 := Tryd.underlying81
  a53 := Tryd.isAgg81
  z53 := Tryd.sizeOf81
  v53 := Tryd.zeroValue81
  t70 := Tryd.underlying123
  a70 := Tryd.isAgg123
  z70 := Tryd.sizeOf123
  v70 := Tryd.zeroValue123
  t72 := Tryd.underlying126
  a72 := Tryd.isAgg126
  z72 := Tryd.sizeOf126
  v72 := Tryd.zeroValue126
  t75 := Tryd.underlying129
  a75 := Tryd.isAgg129
  z75 := Tryd.sizeOf129
  v75 := Tryd.zeroValue129
  t76 := Tryd.underlying130
  a76 := Tryd.isAgg130
  z76 := Tryd.sizeOf130
  v76 := Tryd.zeroValue130
  t109 := Tryd.underlying120
  a109 := Tryd.isAgg120
  z109 := Tryd.sizeOf120
  v109 := Tryd.zeroValue120
  t127 := Tryd.underlying146
  a127 := Tryd.isAgg146
  z127 := Tryd.sizeOf146
  v127 := Tryd.zeroValue146
  t146 := Tryd.underlying144
  a146 := Tryd.isAgg144
  z146 := Tryd.sizeOf144
  v146 := Tryd.zeroValue144
  t148 := Tryd.underlying112
  a148 := Tryd.isAgg112
  z148 := Tryd.sizeOf112
  v148 := Tryd.zeroValue112
  t164 := Tryd.underlying151
  a164 := Tryd.isAgg151
  z164 := Tryd.sizeOf151
  v164 := Tryd.zeroValue151 }
theorem Tryd.Builder_Extra_105 : Builder.Extra Tryd.prog Tryd.lays105_ren := {
  sizeBuilder := by kernel_rfl
  liesBuilder := by kernel_rfl
  t5 := Tryd.underlying5
  a5 := Tryd.isAgg5
  z5 := Tryd.sizeOf5
  v5 := Tryd.zeroValue5
  infoByte := by kernel_rfl
  cellsByte := by kernel_rfl
  sizeByte := by kernel_rfl
  neB5 := by decide }
open Go.RowKit Go.Lib in
open Go.RowKit Go.Lib in
open Go.RowKit Go.Lib in
open Go.RowKit Go.Lib in
open Go.RowKit Go.Lib in
open Go.RowKit Go.Lib in
open Go.RowKit Go.Lib in
/-- **strings.Repeat: count ≥ 0, the result within one allocation: count copies of s.** (LAID: no walk: one application.) -/
theorem Tryd.strings_Repeat (s : ByteArray) (c : Nat) (w : World) (hc : c ≤ 9223372036854775807) (hlen : s.size * c ≤ 140737488355328) :
    Calls Tryd.prog 109 #[.string s, .int .i64 c] w fun e w' => e = .returned (.string ⟨(Lib.repeatL s.data.toList c).toArray⟩) ∧ Below w.heap.size w w' := Any.strings_Repeat Tryd.lays105 Tryd.Builder_Extra_105 s c w hc hlen
end Go.Proofs

namespace Go.Proofs.Num
open Go.RowKit
set_option linter.unusedVariables false
set_option linter.unusedSimpArgs false
theorem size_alive (w : World) : Calls Tryd.prog 78 #[.int .i64 (-5)] w fun e w' => e = .returned (.int .u64 5) ∧ w' = w := by
  go_enter Tryd.func78, Tryd.ntmps78
  go_wp2
  go_ret
  exact ⟨by rfl, rfl⟩
set_option maxRecDepth 100000 in
theorem small_alive (w : World) : Calls Tryd.prog 130 #[.int .i64 5] w fun e w' => e = .returned (.string ⟨#[53]⟩) ∧ w' = w := by
  go_enter Tryd.func130, Tryd.ntmps130
  go_wp2
  go_ret
  exact ⟨by rfl, rfl⟩
set_option maxRecDepth 100000 in
theorem format_alive (w : World) : Calls Tryd.prog 108 #[.int .u64 5, .int .i64 10] w fun e w' => e = .returned (.string ⟨#[53]⟩) ∧ w' = w := by
  go_enter Tryd.func108, Tryd.ntmps108
  go_wp2_with (first
    | (go_at_call 130; refine (small_alive _).mono ?_; rintro e w1 ⟨rfl, rfl⟩)
    | go_in)
  go_ret
  exact ⟨by rfl, rfl⟩
theorem repeat_alive (w : World) : Calls Tryd.prog 109 #[.string ⟨#[48]⟩, .int .i64 2] w fun e w' => e = .returned (.string ⟨#[48, 48]⟩) ∧ Below w.heap.size w w' :=
  (Tryd.strings_Repeat ⟨#[48]⟩ 2 w (by decide) (by decide)).mono fun _ _ ⟨h1, h2⟩ => ⟨h1.trans (by rfl), h2⟩
set_option maxRecDepth 100000 in
set_option maxHeartbeats 1600000 in
theorem decimal_alive (w : World) : Calls Tryd.prog 72 #[.int .i64 (-5), .int .i64 2] w fun e w' => e = .returned (.tuple #[.string ⟨#[45, 48, 46, 48, 53]⟩, .int .i64 0]) ∧ Below w.heap.size w w' := by
  have e0 : (⟨#[48, 48]⟩ : ByteArray) ++ ⟨#[53]⟩ = ⟨#[48, 48, 53]⟩ := by decide
  go_enter Tryd.func72, Tryd.ntmps72
  go_upto_region 7 with (first
    | (go_at_call 78; refine (size_alive _).mono ?_; rintro e w1 ⟨rfl, rfl⟩)
    | (go_at_call 108; refine (format_alive _).mono ?_; rintro e w1 ⟨rfl, rfl⟩)
    | (go_at_call 109; refine (repeat_alive _).mono ?_; rintro e w1 ⟨rfl, hb⟩))
  go_quiet (fail)
  go_wp2
  go_ret2
  refine ⟨?_, hb.trans ⟨rfl, rfl, rfl, Nat.le_refl _, fun _ _ => rfl⟩⟩
  have e1 : (⟨#[45]⟩ : ByteArray) ++ ((⟨#[48, 48, 53]⟩ : ByteArray).extract 0 1 ++ ⟨#[46]⟩ ++ (⟨#[48, 48, 53]⟩ : ByteArray).extract 1 3) = ⟨#[45, 48, 46, 48, 53]⟩ := by decide
  exact congrArg (fun x => Ending.returned (.tuple #[.string x, .int .i64 0])) e1
end Go.Proofs.Num

namespace Go.Proofs.YtdjnneflpkllmaaDoor.Q
open Go.RowKit Go.Proofs.YtdjnneflpkllmaaDoorW.PrintWords Go.Proofs.YtdjnneflpkllmaaDoorW.PrintLast Go.Proofs.YtdjnneflpkllmaaDoorW.PrintMore
attribute [local go_sem] max2_int min2_int max_two min_two max_three min_three max_four min_four   -- for this text's walks alone
set_option linter.unusedVariables false
set_option linter.unusedSimpArgs false
def num_down.f (a0 : Int) (a1 : Int) : Option (Int × Int) := if a1 = 0 then (none) else (if (Int.tmod a0 a1) < 0 then (some (wrap64 ((wrap64 (Int.tdiv a0 a1)) - 1), wrap64 ((Int.tmod a0 a1) + a1))) else (some (wrap64 (Int.tdiv a0 a1), Int.tmod a0 a1)))
set_option maxHeartbeats 8000000 in
set_option maxRecDepth 100000 in
theorem num_down.calls (a0 : Int) (a1 : Int) (r1 : Int) (r2 : Int) (w : World) (h : num_down.f a0 a1 = some (r1, r2)) :
    Calls Tryd.prog 70 #[.int .i64 a0, .int .i64 a1] w fun e w' => e = .returned (.tuple #[.int .i64 r1, .int .i64 r2]) ∧ Drawn0 w w' := by
  have H : (if a1 = 0 then (none) else (if (Int.tmod a0 a1) < 0 then (some (wrap64 ((wrap64 (Int.tdiv a0 a1)) - 1), wrap64 ((Int.tmod a0 a1) + a1))) else (some (wrap64 (Int.tdiv a0 a1), Int.tmod a0 a1)))) = some (r1, r2) := h
  clear h
  by_cases c3 : a1 = 0
  · rw [if_pos c3] at H
    exact absurd H (by simp)
  · rw [if_neg c3] at H
    have c3b0 : (a1 == 0) = false := beq_eq_false_iff_ne.mpr c3
    have c3b1 : (a1 != 0) = true := bne_iff_ne.mpr c3
    by_cases c4 : (Int.tmod a0 a1) < 0
    · rw [if_pos c4] at H
      have c4b0 : decide ((Int.tmod a0 a1) < 0) = true := decide_eq_true c4
      clear c4
      simp only [Option.some.injEq, Prod.mk.injEq] at H
      obtain ⟨rfl, rfl⟩ := H
      go_enter Tryd.func70, Tryd.ntmps70
      go_wp2
      repeat (go_quiet (fail); try go_wp2)
      go_ret2
      exact ⟨by first | rfl | (simp; done) | (simp [*]; done), by repeat (first | exact Drawn0.refl _ | apply Drawn0.step)⟩
    · rw [if_neg c4] at H
      have c4b0 : decide ((Int.tmod a0 a1) < 0) = false := decide_eq_false c4
      clear c4
      simp only [Option.some.injEq, Prod.mk.injEq] at H
      obtain ⟨rfl, rfl⟩ := H
      go_enter Tryd.func70, Tryd.ntmps70
      go_wp2
      repeat (go_quiet (fail); try go_wp2)
      go_ret2
      exact ⟨by first | rfl | (simp; done) | (simp [*]; done), by repeat (first | exact Drawn0.refl _ | apply Drawn0.step)⟩
end Go.Proofs.YtdjnneflpkllmaaDoor.Q

namespace Go.Proofs.YtdjnneflpkllmaaDoor.Q
open Go.RowKit Go.Proofs.YtdjnneflpkllmaaDoorW.PrintWords Go.Proofs.YtdjnneflpkllmaaDoorW.PrintLast Go.Proofs.YtdjnneflpkllmaaDoorW.PrintMore
attribute [local go_sem] max2_int min2_int max_two min_two max_three min_three max_four min_four   -- for this text's walks alone
set_option linter.unusedVariables false
set_option linter.unusedSimpArgs false
/-- Cells that are stored as they are. -/
theorem self2_ {W : World} {g : Nat} {A B : Value} {t : TypeId} {f : Nat × Nat} (k : W.heap[g]? = some (.cells #[A, B] t f)) : (W.setCell ⟨g, 0, none⟩ A).setCell ⟨g, 1, none⟩ B = W := by
  have h : (((W.setCell ⟨g, 0, none⟩ A).setCell ⟨g, 1, none⟩ B)).heap = W.heap := by
    apply Array.ext_getElem?
    intro i
    simp only [World.setCell, Array.getElem?_modify]
    by_cases e : g = i
    · subst e
      simp [k]
    · simp [e]
  exact (show _ = { W with heap := ((W.setCell ⟨g, 0, none⟩ A).setCell ⟨g, 1, none⟩ B).heap } from rfl).trans (by rw [h])
mutual
def num_around.l0 : Nat → Int → Int → Int → Int → Int → Int → Int → Option (Int × Int × Int × Int)
  | 0, _, _, _, _, _, _, _ => none
  | k + 1, x0, x1, x2, x102000, x102001, x103000, x103001 => if x103001 = 0 then (none) else (if (wrap64 ((wrap64 (x103000 * x1)) - (wrap64 (x0 * x103001)))) > 0 then (if (wrap64 ((wrap64 (x103000 * x1)) - (wrap64 (x0 * x103001)))) = 0 then (none) else (num_around.j1 k x0 x1 x2 (mn (wrap64 (Int.tdiv (wrap64 (x2 - x102001)) x103001)) (wrap64 (Int.tdiv (wrap64 ((wrap64 (x0 * x102001)) - (wrap64 (x102000 * x1)))) (wrap64 ((wrap64 (x103000 * x1)) - (wrap64 (x0 * x103001))))))) x102000 x102001 x103000 x103001)) else (num_around.j1 k x0 x1 x2 (wrap64 (Int.tdiv (wrap64 (x2 - x102001)) x103001)) x102000 x102001 x103000 x103001))
def num_around.j1 : Nat → Int → Int → Int → Int → Int → Int → Int → Int → Option (Int × Int × Int × Int)
  | 0, _, _, _, _, _, _, _, _ => none
  | k + 1, x0, x1, x2, x8, x102000, x102001, x103000, x103001 => if (wrap64 (x102001 + (wrap64 (x8 * x103001)))) = 0 then (none) else (if (wrap64 ((wrap64 (x0 * (wrap64 (x102001 + (wrap64 (x8 * x103001)))))) - (wrap64 ((wrap64 (x102000 + (wrap64 (x8 * x103000)))) * x1)))) > 0 then (if (wrap64 ((wrap64 (x0 * (wrap64 (x102001 + (wrap64 (x8 * x103001)))))) - (wrap64 ((wrap64 (x102000 + (wrap64 (x8 * x103000)))) * x1)))) = 0 then (none) else (if x8 = 0 then (if (mn (wrap64 (Int.tdiv (wrap64 (x2 - x103001)) (wrap64 (x102001 + (wrap64 (x8 * x103001)))))) (wrap64 (Int.tdiv (wrap64 ((wrap64 ((wrap64 (x103000 * x1)) - (wrap64 (x0 * x103001)))) - 1)) (wrap64 ((wrap64 (x0 * (wrap64 (x102001 + (wrap64 (x8 * x103001)))))) - (wrap64 ((wrap64 (x102000 + (wrap64 (x8 * x103000)))) * x1))))))) = 0 then (some (wrap64 (x102000 + (wrap64 (x8 * x103000))), wrap64 (x102001 + (wrap64 (x8 * x103001))), wrap64 (x103000 + (wrap64 ((mn (wrap64 (Int.tdiv (wrap64 (x2 - x103001)) (wrap64 (x102001 + (wrap64 (x8 * x103001)))))) (wrap64 (Int.tdiv (wrap64 ((wrap64 ((wrap64 (x103000 * x1)) - (wrap64 (x0 * x103001)))) - 1)) (wrap64 ((wrap64 (x0 * (wrap64 (x102001 + (wrap64 (x8 * x103001)))))) - (wrap64 ((wrap64 (x102000 + (wrap64 (x8 * x103000)))) * x1))))))) * (wrap64 (x102000 + (wrap64 (x8 * x103000))))))), wrap64 (x103001 + (wrap64 ((mn (wrap64 (Int.tdiv (wrap64 (x2 - x103001)) (wrap64 (x102001 + (wrap64 (x8 * x103001)))))) (wrap64 (Int.tdiv (wrap64 ((wrap64 ((wrap64 (x103000 * x1)) - (wrap64 (x0 * x103001)))) - 1)) (wrap64 ((wrap64 (x0 * (wrap64 (x102001 + (wrap64 (x8 * x103001)))))) - (wrap64 ((wrap64 (x102000 + (wrap64 (x8 * x103000)))) * x1))))))) * (wrap64 (x102001 + (wrap64 (x8 * x103001))))))))) else (num_around.l0 k x0 x1 x2 (wrap64 (x102000 + (wrap64 (x8 * x103000)))) (wrap64 (x102001 + (wrap64 (x8 * x103001)))) (wrap64 (x103000 + (wrap64 ((mn (wrap64 (Int.tdiv (wrap64 (x2 - x103001)) (wrap64 (x102001 + (wrap64 (x8 * x103001)))))) (wrap64 (Int.tdiv (wrap64 ((wrap64 ((wrap64 (x103000 * x1)) - (wrap64 (x0 * x103001)))) - 1)) (wrap64 ((wrap64 (x0 * (wrap64 (x102001 + (wrap64 (x8 * x103001)))))) - (wrap64 ((wrap64 (x102000 + (wrap64 (x8 * x103000)))) * x1))))))) * (wrap64 (x102000 + (wrap64 (x8 * x103000)))))))) (wrap64 (x103001 + (wrap64 ((mn (wrap64 (Int.tdiv (wrap64 (x2 - x103001)) (wrap64 (x102001 + (wrap64 (x8 * x103001)))))) (wrap64 (Int.tdiv (wrap64 ((wrap64 ((wrap64 (x103000 * x1)) - (wrap64 (x0 * x103001)))) - 1)) (wrap64 ((wrap64 (x0 * (wrap64 (x102001 + (wrap64 (x8 * x103001)))))) - (wrap64 ((wrap64 (x102000 + (wrap64 (x8 * x103000)))) * x1))))))) * (wrap64 (x102001 + (wrap64 (x8 * x103001)))))))))) else (num_around.l0 k x0 x1 x2 (wrap64 (x102000 + (wrap64 (x8 * x103000)))) (wrap64 (x102001 + (wrap64 (x8 * x103001)))) (wrap64 (x103000 + (wrap64 ((mn (wrap64 (Int.tdiv (wrap64 (x2 - x103001)) (wrap64 (x102001 + (wrap64 (x8 * x103001)))))) (wrap64 (Int.tdiv (wrap64 ((wrap64 ((wrap64 (x103000 * x1)) - (wrap64 (x0 * x103001)))) - 1)) (wrap64 ((wrap64 (x0 * (wrap64 (x102001 + (wrap64 (x8 * x103001)))))) - (wrap64 ((wrap64 (x102000 + (wrap64 (x8 * x103000)))) * x1))))))) * (wrap64 (x102000 + (wrap64 (x8 * x103000)))))))) (wrap64 (x103001 + (wrap64 ((mn (wrap64 (Int.tdiv (wrap64 (x2 - x103001)) (wrap64 (x102001 + (wrap64 (x8 * x103001)))))) (wrap64 (Int.tdiv (wrap64 ((wrap64 ((wrap64 (x103000 * x1)) - (wrap64 (x0 * x103001)))) - 1)) (wrap64 ((wrap64 (x0 * (wrap64 (x102001 + (wrap64 (x8 * x103001)))))) - (wrap64 ((wrap64 (x102000 + (wrap64 (x8 * x103000)))) * x1))))))) * (wrap64 (x102001 + (wrap64 (x8 * x103001))))))))))) else (if x8 = 0 then (if (wrap64 (Int.tdiv (wrap64 (x2 - x103001)) (wrap64 (x102001 + (wrap64 (x8 * x103001)))))) = 0 then (some (wrap64 (x102000 + (wrap64 (x8 * x103000))), wrap64 (x102001 + (wrap64 (x8 * x103001))), wrap64 (x103000 + (wrap64 ((wrap64 (Int.tdiv (wrap64 (x2 - x103001)) (wrap64 (x102001 + (wrap64 (x8 * x103001)))))) * (wrap64 (x102000 + (wrap64 (x8 * x103000))))))), wrap64 (x103001 + (wrap64 ((wrap64 (Int.tdiv (wrap64 (x2 - x103001)) (wrap64 (x102001 + (wrap64 (x8 * x103001)))))) * (wrap64 (x102001 + (wrap64 (x8 * x103001))))))))) else (num_around.l0 k x0 x1 x2 (wrap64 (x102000 + (wrap64 (x8 * x103000)))) (wrap64 (x102001 + (wrap64 (x8 * x103001)))) (wrap64 (x103000 + (wrap64 ((wrap64 (Int.tdiv (wrap64 (x2 - x103001)) (wrap64 (x102001 + (wrap64 (x8 * x103001)))))) * (wrap64 (x102000 + (wrap64 (x8 * x103000)))))))) (wrap64 (x103001 + (wrap64 ((wrap64 (Int.tdiv (wrap64 (x2 - x103001)) (wrap64 (x102001 + (wrap64 (x8 * x103001)))))) * (wrap64 (x102001 + (wrap64 (x8 * x103001)))))))))) else (num_around.l0 k x0 x1 x2 (wrap64 (x102000 + (wrap64 (x8 * x103000)))) (wrap64 (x102001 + (wrap64 (x8 * x103001)))) (wrap64 (x103000 + (wrap64 ((wrap64 (Int.tdiv (wrap64 (x2 - x103001)) (wrap64 (x102001 + (wrap64 (x8 * x103001)))))) * (wrap64 (x102000 + (wrap64 (x8 * x103000)))))))) (wrap64 (x103001 + (wrap64 ((wrap64 (Int.tdiv (wrap64 (x2 - x103001)) (wrap64 (x102001 + (wrap64 (x8 * x103001)))))) * (wrap64 (x102001 + (wrap64 (x8 * x103001)))))))))))
end
def num_around.f (k : Nat) (a0 : Int) (a1 : Int) (a2 : Int) : Option (Int × Int × Int × Int) := num_around.l0 k a0 a1 a2 0 1 1 1
theorem num_around.mono_l : ∀ k, (∀ y0 y1 y2 y3 y4 y5 y6, LeO (num_around.l0 k y0 y1 y2 y3 y4 y5 y6) (num_around.l0 (k + 1) y0 y1 y2 y3 y4 y5 y6)) ∧ (∀ y0 y1 y2 y3 y4 y5 y6 y7, LeO (num_around.j1 k y0 y1 y2 y3 y4 y5 y6 y7) (num_around.j1 (k + 1) y0 y1 y2 y3 y4 y5 y6 y7))
  | 0 => ⟨fun _ _ _ _ _ _ _ r h => by simp [num_around.l0] at h, fun _ _ _ _ _ _ _ _ r h => by simp [num_around.j1] at h⟩
  | k + 1 => by
    obtain ⟨ih0, ih1⟩ := num_around.mono_l k
    refine ⟨?_, ?_⟩
    · intro y0 y1 y2 y3 y4 y5 y6
      unfold num_around.l0
      repeat' first
      | (with_reducible exact ih0 _ _ _ _ _ _ _)
      | (with_reducible exact ih1 _ _ _ _ _ _ _ _)
      | (with_reducible exact LeO.refl _)
      | (with_reducible exact LeO.none _)
      | (with_reducible refine LeO.ite ?_ ?_)
      | (with_reducible refine LeO.bind ?_ (fun _ => ?_))
      | exact ih0 _ _ _ _ _ _ _
      | exact ih1 _ _ _ _ _ _ _ _
      | exact LeO.none _
      | refine LeO.ite ?_ ?_
      | refine LeO.bind ?_ (fun _ => ?_)
    · intro y0 y1 y2 y3 y4 y5 y6 y7
      unfold num_around.j1
      repeat' first
      | (with_reducible exact ih0 _ _ _ _ _ _ _)
      | (with_reducible exact ih1 _ _ _ _ _ _ _ _)
      | (with_reducible exact LeO.refl _)
      | (with_reducible exact LeO.none _)
      | (with_reducible refine LeO.ite ?_ ?_)
      | (with_reducible refine LeO.bind ?_ (fun _ => ?_))
      | exact ih0 _ _ _ _ _ _ _
      | exact ih1 _ _ _ _ _ _ _ _
      | exact LeO.none _
      | refine LeO.ite ?_ ?_
      | refine LeO.bind ?_ (fun _ => ?_)
theorem num_around.mono : ∀ a0 a1 a2 k, LeO (num_around.f k a0 a1 a2) (num_around.f (k + 1) a0 a1 a2) := by
  intro a0 a1 a2 k
  obtain ⟨ih0, ih1⟩ := num_around.mono_l k
  unfold num_around.f
  repeat' first
      | (with_reducible exact ih0 _ _ _ _ _ _ _)
      | (with_reducible exact ih1 _ _ _ _ _ _ _ _)
      | (with_reducible exact LeO.refl _)
      | (with_reducible exact LeO.none _)
      | (with_reducible refine LeO.ite ?_ ?_)
      | (with_reducible refine LeO.bind ?_ (fun _ => ?_))
      | exact ih0 _ _ _ _ _ _ _
      | exact ih1 _ _ _ _ _ _ _ _
      | exact LeO.none _
      | refine LeO.ite ?_ ?_
      | refine LeO.bind ?_ (fun _ => ?_)
set_option maxHeartbeats 8000000 in
set_option maxRecDepth 100000 in
theorem num_around.calls (k : Nat) (a0 : Int) (a1 : Int) (a2 : Int) (r1 : Int) (r2 : Int) (r3 : Int) (r4 : Int) (w : World) (h : num_around.f k a0 a1 a2 = some (r1, r2, r3, r4)) :
    Calls Tryd.prog 71 #[.int .i64 a0, .int .i64 a1, .int .i64 a2] w fun e w' => e = .returned (.tuple #[.agg #[.int .i64 r1, .int .i64 r2], .agg #[.int .i64 r3, .int .i64 r4]]) ∧ Below w.heap.size w w' := by
  have hu23 := Tryd.underlying23
  have HB := Aside0.mk (Below.refl w.heap.size w)
  have H : (num_around.l0 k a0 a1 a2 0 1 1 1) = some (r1, r2, r3, r4) := h
  clear h
  have H' := Aside0.mk H
  clear H
  go_enter Tryd.func71, Tryd.ntmps71
  go_wp2_with (first | ((with_reducible refine gate_dst (N := 6) rfl ?_); refine box_event ?hg (N := 6) ?hd (cs := #[.int .i64 0, .int .i64 0]) (t := 23) ?hr ?_; (case hd => rfl); (case hg => rfl); (case hr => first | (go_simp; done) | (go_simp; rfl)); intro gb101 hg w4 hbox hb; have n0_ := Aside0.mk (below_step (q0_ HB.out) hb); have n1_ := Aside0.mk (hbox); have n2_ := Aside0.mk ((by rw [hg]; exact (below_size (q0_ HB.out)) : w.heap.size ≤ gb101)); have n3_ := Aside0.mk ((by rw [hg]; exact (below_size (q0_ HB.out)) : w.heap.size ≤ gb101)); clear HB; have HB := n0_; have BK101 := n1_; have GW101 := n2_; have GE101 := n3_; clear n0_ n1_ n2_ n3_; clear hb hbox hg) | ((with_reducible refine gate_dst (N := 7) rfl ?_); refine box_event ?hg (N := 7) ?hd (cs := #[.int .i64 0, .int .i64 0]) (t := 23) ?hr ?_; (case hd => rfl); (case hg => rfl); (case hr => first | (go_simp; done) | (go_simp; rfl)); intro gb102 hg w5 hbox hb; have n0_ := Aside0.mk (blk_below (g := gb101) (o := .cells #[.int .i64 0, .int .i64 0] 23 (0, 0)) (qb_ BK101.out) hb); have n1_ := Aside0.mk (below_step (q1_ HB.out GE101.out) hb); have n2_ := Aside0.mk (hbox); have n3_ := Aside0.mk ((by rw [hg]; exact (below_size (q1_ HB.out GE101.out)) : w.heap.size ≤ gb102)); have n4_ := Aside0.mk ((by rw [hg]; exact (below_size (q1_ HB.out GE101.out)) : w.heap.size ≤ gb102)); have n5_ := Aside0.mk ((by rw [hg]; exact Nat.ne_of_lt (blk_lt (g := gb101) (o := .cells #[.int .i64 0, .int .i64 0] 23 (0, 0)) (qb_ BK101.out)) : gb101 ≠ gb102)); have n6_ := Aside0.mk ((by rw [hg]; exact Nat.ne_of_gt (blk_lt (g := gb101) (o := .cells #[.int .i64 0, .int .i64 0] 23 (0, 0)) (qb_ BK101.out)) : gb102 ≠ gb101)); clear BK101; clear HB; have BK101 := n0_; have HB := n1_; have BK102 := n2_; have GW102 := n3_; have GE102 := n4_; have NB101_102 := n5_; have NB102_101 := n6_; clear n0_ n1_ n2_ n3_ n4_ n5_ n6_; clear hb hbox hg; have hnb6 := NB101_102.out; have hnc6 := NB102_101.out; have hcz7_0 : w5.cell? ⟨gb101, 0, none⟩ = some (.int .i64 0) := (blk_cell BK101.out 0).trans rfl; have hcz7_1 : w5.cell? ⟨gb101, 1, none⟩ = some (.int .i64 0) := (blk_cell BK101.out 1).trans rfl; have hfz7_0 := blk_frozen BK101.out 0; have hfz7_1 := blk_frozen BK101.out 1; have hcz8_0 : w5.cell? ⟨gb102, 0, none⟩ = some (.int .i64 0) := (blk_cell BK102.out 0).trans rfl; have hcz8_1 : w5.cell? ⟨gb102, 1, none⟩ = some (.int .i64 0) := (blk_cell BK102.out 1).trans rfl; have hfz8_0 := blk_frozen BK102.out 0; have hfz8_1 := blk_frozen BK102.out 1))
  go_loopg [] k (fun kq w' => ∃ (x102000_1 : Int) (x102001_1 : Int) (x103000_1 : Int) (x103001_1 : Int), Aside0 (num_around.l0 kq a0 a1 a2 x102000_1 x102001_1 x103000_1 x103001_1 = some (r1, r2, r3, r4)) ∧ Aside0 (kq ≤ k) ∧ Aside0 (w'.heap[gb101]? = some (.cells #[.int .i64 x102000_1, .int .i64 x102001_1] 23 (0, 0))) ∧ Aside0 (w'.heap[gb102]? = some (.cells #[.int .i64 x103000_1, .int .i64 x103001_1] 23 (0, 0))) ∧ Aside0 (Below w.heap.size w w'))
  case atStart => exact ⟨(0), (1), (1), (1), H', ⟨Nat.le_refl _⟩, ⟨by (with_reducible repeat (first | refine blk_drewN ?_ _ | refine blk_drew ?_ | refine blk_alloc ?_ _)); refine blk_far ?_ NB101_102.out _; (with_reducible repeat (first | refine blk_drewN ?_ _ | refine blk_drew ?_ | refine blk_alloc ?_ _)); refine blk_far ?_ NB101_102.out _; (with_reducible repeat (first | refine blk_drewN ?_ _ | refine blk_drew ?_ | refine blk_alloc ?_ _)); refine blk_put (cs := #[.int .i64 0, .int .i64 0]) ?_ 1 _ rfl; (with_reducible repeat (first | refine blk_drewN ?_ _ | refine blk_drew ?_ | refine blk_alloc ?_ _)); refine blk_put (cs := #[.int .i64 0, .int .i64 0]) ?_ 0 _ rfl; (with_reducible repeat (first | refine blk_drewN ?_ _ | refine blk_drew ?_ | refine blk_alloc ?_ _)); exact BK101.out⟩, ⟨by (with_reducible repeat (first | refine blk_drewN ?_ _ | refine blk_drew ?_ | refine blk_alloc ?_ _)); refine blk_put (cs := #[.int .i64 1, .int .i64 0]) ?_ 1 _ rfl; (with_reducible repeat (first | refine blk_drewN ?_ _ | refine blk_drew ?_ | refine blk_alloc ?_ _)); refine blk_put (cs := #[.int .i64 0, .int .i64 0]) ?_ 0 _ rfl; (with_reducible repeat (first | refine blk_drewN ?_ _ | refine blk_drew ?_ | refine blk_alloc ?_ _)); refine blk_far ?_ NB102_101.out _; (with_reducible repeat (first | refine blk_drewN ?_ _ | refine blk_drew ?_ | refine blk_alloc ?_ _)); refine blk_far ?_ NB102_101.out _; (with_reducible repeat (first | refine blk_drewN ?_ _ | refine blk_drew ?_ | refine blk_alloc ?_ _)); exact BK102.out⟩, ⟨(q2_ HB.out GE101.out GE102.out)⟩⟩
  case round =>
    clear H'
    try clear p2
    try clear c6
    try clear c7
    try clear hcz7_0
    try clear hcz7_1
    try clear hcz8_0
    try clear hcz8_1
    try clear hfz7_0
    try clear hfz7_1
    try clear hfz8_0
    try clear hfz8_1
    obtain ⟨x102000_1, x102001_1, x103000_1, x103001_1, HA, HK1, BK101, BK102, HB⟩ := hrel
    cases gk with
    | zero => exact absurd HA.out (by simp [num_around.l0])
    | succ k1 =>
      have H := HA.out
      clear HA
      simp only [num_around.l0] at H
      by_cases c9 : x103001_1 = 0
      · rw [if_pos c9] at H
        exact absurd H (by simp)
      · rw [if_neg c9] at H
        have c9b0 : (x103001_1 == 0) = false := beq_eq_false_iff_ne.mpr c9
        have c9b1 : (x103001_1 != 0) = true := bne_iff_ne.mpr c9
        have HC10 := Aside0.mk H
        clear H
        have hnb11 := NB101_102.out
        have hnc11 := NB102_101.out
        have hcz12_0 : wr.cell? ⟨gb101, 0, none⟩ = some (.int .i64 x102000_1) := (blk_cell BK101.out 0).trans rfl
        have hcz12_1 : wr.cell? ⟨gb101, 1, none⟩ = some (.int .i64 x102001_1) := (blk_cell BK101.out 1).trans rfl
        have hfz12_0 := blk_frozen BK101.out 0
        have hfz12_1 := blk_frozen BK101.out 1
        have hcz13_0 : wr.cell? ⟨gb102, 0, none⟩ = some (.int .i64 x103000_1) := (blk_cell BK102.out 0).trans rfl
        have hcz13_1 : wr.cell? ⟨gb102, 1, none⟩ = some (.int .i64 x103001_1) := (blk_cell BK102.out 1).trans rfl
        have hfz13_0 := blk_frozen BK102.out 0
        have hfz13_1 := blk_frozen BK102.out 1
        go_upto_if 31 with (fail)
        go_cut [8] (fun v8 wc => ∃ (kq : Nat) (x8_9 : Int), v8 = .int .i64 x8_9 ∧ Aside0 (num_around.j1 kq a0 a1 a2 x8_9 x102000_1 x102001_1 x103000_1 x103001_1 = some (r1, r2, r3, r4)) ∧ Aside0 (kq ≤ k1) ∧ Aside0 (wc.heap[gb101]? = some (.cells #[.int .i64 x102000_1, .int .i64 x102001_1] 23 (0, 0))) ∧ Aside0 (wc.heap[gb102]? = some (.cells #[.int .i64 x103000_1, .int .i64 x103001_1] 23 (0, 0))) ∧ Aside0 (Below w.heap.size w wc))
        case first =>
          have H := HC10.out
          clear HC10
          by_cases c14 : (wrap64 ((wrap64 (x103000_1 * a1)) - (wrap64 (a0 * x103001_1)))) > 0
          · rw [if_pos c14] at H
            have c14b0 : decide (0 < (wrap64 ((wrap64 (x103000_1 * a1)) - (wrap64 (a0 * x103001_1))))) = true := decide_eq_true c14
            clear c14
            (first | rw [c14b0] | (simp only [i64_w, i32_w]; rw [c14b0]) | skip)
            by_cases c15 : (wrap64 ((wrap64 (x103000_1 * a1)) - (wrap64 (a0 * x103001_1)))) = 0
            · rw [if_pos c15] at H
              exact absurd H (by simp)
            · rw [if_neg c15] at H
              have c15b0 : ((wrap64 ((wrap64 (x103000_1 * a1)) - (wrap64 (a0 * x103001_1)))) == 0) = false := beq_eq_false_iff_ne.mpr c15
              have c15b1 : ((wrap64 ((wrap64 (x103000_1 * a1)) - (wrap64 (a0 * x103001_1)))) != 0) = true := bne_iff_ne.mpr c15
              obtain ⟨ji16, hji16⟩ : ∃ j_ : Int, (mn (wrap64 (Int.tdiv (wrap64 (a2 - x102001_1)) x103001_1)) (wrap64 (Int.tdiv (wrap64 ((wrap64 (a0 * x102001_1)) - (wrap64 (x102000_1 * a1)))) (wrap64 ((wrap64 (x103000_1 * a1)) - (wrap64 (a0 * x103001_1))))))) = j_ := ⟨_, rfl⟩
              replace H : (num_around.j1 k1 a0 a1 a2 ji16 x102000_1 x102001_1 x103000_1 x103001_1) = some (r1, r2, r3, r4) := by first | (rw [hji16] at H; exact H) | (simp only [hji16] at H ⊢; exact H)
              have hji16_ : (if (wrap64 (Int.tdiv (wrap64 ((wrap64 (a0 * x102001_1)) - (wrap64 (x102000_1 * a1)))) (wrap64 ((wrap64 (x103000_1 * a1)) - (wrap64 (a0 * x103001_1)))))) < (wrap64 (Int.tdiv (wrap64 (a2 - x102001_1)) x103001_1)) then (wrap64 (Int.tdiv (wrap64 ((wrap64 (a0 * x102001_1)) - (wrap64 (x102000_1 * a1)))) (wrap64 ((wrap64 (x103000_1 * a1)) - (wrap64 (a0 * x103001_1)))))) else (wrap64 (Int.tdiv (wrap64 (a2 - x102001_1)) x103001_1))) = ji16 := hji16
              have H' := Aside0.mk H
              clear H
              have hnb17 := NB101_102.out
              have hnc17 := NB102_101.out
              have hcz18_0 : wr.cell? ⟨gb101, 0, none⟩ = some (.int .i64 x102000_1) := (blk_cell BK101.out 0).trans rfl
              have hcz18_1 : wr.cell? ⟨gb101, 1, none⟩ = some (.int .i64 x102001_1) := (blk_cell BK101.out 1).trans rfl
              have hfz18_0 := blk_frozen BK101.out 0
              have hfz18_1 := blk_frozen BK101.out 1
              go_wp2
              go_meet
              case rel => exact ⟨_, (ji16), (by first | rfl | (simp; done) | (simp only [← hji16] <;> (first | rfl | simp)) | (simp [*]; done)), H', ⟨by have := HK1.out; first | omega | exact Nat.le_refl _⟩, ⟨by (with_reducible repeat (first | refine blk_drewN ?_ _ | refine blk_drew ?_ | refine blk_alloc ?_ _)); exact BK101.out⟩, ⟨by (with_reducible repeat (first | refine blk_drewN ?_ _ | refine blk_drew ?_ | refine blk_alloc ?_ _)); exact BK102.out⟩, ⟨(q2_ HB.out GE101.out GE102.out)⟩⟩
          · rw [if_neg c14] at H
            have c14b0 : decide (0 < (wrap64 ((wrap64 (x103000_1 * a1)) - (wrap64 (a0 * x103001_1))))) = false := decide_eq_false c14
            clear c14
            (first | rw [c14b0] | (simp only [i64_w, i32_w]; rw [c14b0]) | skip)
            have H' := Aside0.mk H
            clear H
            go_wp2
            go_meet
            case rel => exact ⟨_, (wrap64 (Int.tdiv (wrap64 (a2 - x102001_1)) x103001_1)), (by first | rfl | (simp; done) | (simp [*]; done)), H', ⟨by have := HK1.out; first | omega | exact Nat.le_refl _⟩, ⟨by (with_reducible repeat (first | refine blk_drewN ?_ _ | refine blk_drew ?_ | refine blk_alloc ?_ _)); exact BK101.out⟩, ⟨by (with_reducible repeat (first | refine blk_drewN ?_ _ | refine blk_drew ?_ | refine blk_alloc ?_ _)); exact BK102.out⟩, ⟨(q2_ HB.out GE101.out GE102.out)⟩⟩
        case rest =>
          clear HC10
          try clear c1
          try clear p2
          try clear c6
          try clear p6
          try clear c7
          try clear c9
          try clear c9b0
          try clear c9b1
          try clear c11
          try clear c14
          try clear c14b0
          try clear c15
          try clear c15b0
          try clear c15b1
          try clear c17
          try clear hcz12_0
          try clear hcz12_1
          try clear hcz13_0
          try clear hcz13_1
          try clear hcz18_0
          try clear hcz18_1
          try clear hcz7_0
          try clear hcz7_1
          try clear hcz8_0
          try clear hcz8_1
          try clear hfz12_0
          try clear hfz12_1
          try clear hfz13_0
          try clear hfz13_1
          try clear hfz18_0
          try clear hfz18_1
          try clear hfz7_0
          try clear hfz7_1
          try clear hfz8_0
          try clear hfz8_1
          try clear p2
          obtain ⟨kq, x8_9, rfl, HA, HJ9, BK101, BK102, HB⟩ := hcut
          cases kq with
          | zero => exact absurd HA.out (by simp [num_around.j1])
          | succ kj9 =>
            have H := HA.out
            clear HA
            simp only [num_around.j1] at H
            by_cases c19 : (wrap64 (x102001_1 + (wrap64 (x8_9 * x103001_1)))) = 0
            · rw [if_pos c19] at H
              exact absurd H (by simp)
            · rw [if_neg c19] at H
              have c19b0 : ((wrap64 (x102001_1 + (wrap64 (x8_9 * x103001_1)))) == 0) = false := beq_eq_false_iff_ne.mpr c19
              have c19b1 : ((wrap64 (x102001_1 + (wrap64 (x8_9 * x103001_1)))) != 0) = true := bne_iff_ne.mpr c19
              by_cases c20 : (wrap64 ((wrap64 (a0 * (wrap64 (x102001_1 + (wrap64 (x8_9 * x103001_1)))))) - (wrap64 ((wrap64 (x102000_1 + (wrap64 (x8_9 * x103000_1)))) * a1)))) > 0
              · rw [if_pos c20] at H
                have c20b0 : decide (0 < (wrap64 ((wrap64 (a0 * (wrap64 (x102001_1 + (wrap64 (x8_9 * x103001_1)))))) - (wrap64 ((wrap64 (x102000_1 + (wrap64 (x8_9 * x103000_1)))) * a1))))) = true := decide_eq_true c20
                clear c20
                by_cases c21 : (wrap64 ((wrap64 (a0 * (wrap64 (x102001_1 + (wrap64 (x8_9 * x103001_1)))))) - (wrap64 ((wrap64 (x102000_1 + (wrap64 (x8_9 * x103000_1)))) * a1)))) = 0
                · rw [if_pos c21] at H
                  exact absurd H (by simp)
                · rw [if_neg c21] at H
                  have c21b0 : ((wrap64 ((wrap64 (a0 * (wrap64 (x102001_1 + (wrap64 (x8_9 * x103001_1)))))) - (wrap64 ((wrap64 (x102000_1 + (wrap64 (x8_9 * x103000_1)))) * a1)))) == 0) = false := beq_eq_false_iff_ne.mpr c21
                  have c21b1 : ((wrap64 ((wrap64 (a0 * (wrap64 (x102001_1 + (wrap64 (x8_9 * x103001_1)))))) - (wrap64 ((wrap64 (x102000_1 + (wrap64 (x8_9 * x103000_1)))) * a1)))) != 0) = true := bne_iff_ne.mpr c21
                  obtain ⟨ji22, hji22⟩ : ∃ j_ : Int, (mn (wrap64 (Int.tdiv (wrap64 (a2 - x103001_1)) (wrap64 (x102001_1 + (wrap64 (x8_9 * x103001_1)))))) (wrap64 (Int.tdiv (wrap64 ((wrap64 ((wrap64 (x103000_1 * a1)) - (wrap64 (a0 * x103001_1)))) - 1)) (wrap64 ((wrap64 (a0 * (wrap64 (x102001_1 + (wrap64 (x8_9 * x103001_1)))))) - (wrap64 ((wrap64 (x102000_1 + (wrap64 (x8_9 * x103000_1)))) * a1))))))) = j_ := ⟨_, rfl⟩
                  replace H : (if x8_9 = 0 then (if (ji22) = 0 then (some (wrap64 (x102000_1 + (wrap64 (x8_9 * x103000_1))), wrap64 (x102001_1 + (wrap64 (x8_9 * x103001_1))), wrap64 (x103000_1 + (wrap64 ((ji22) * (wrap64 (x102000_1 + (wrap64 (x8_9 * x103000_1))))))), wrap64 (x103001_1 + (wrap64 ((ji22) * (wrap64 (x102001_1 + (wrap64 (x8_9 * x103001_1))))))))) else (num_around.l0 kj9 a0 a1 a2 (wrap64 (x102000_1 + (wrap64 (x8_9 * x103000_1)))) (wrap64 (x102001_1 + (wrap64 (x8_9 * x103001_1)))) (wrap64 (x103000_1 + (wrap64 ((ji22) * (wrap64 (x102000_1 + (wrap64 (x8_9 * x103000_1)))))))) (wrap64 (x103001_1 + (wrap64 ((ji22) * (wrap64 (x102001_1 + (wrap64 (x8_9 * x103001_1)))))))))) else (num_around.l0 kj9 a0 a1 a2 (wrap64 (x102000_1 + (wrap64 (x8_9 * x103000_1)))) (wrap64 (x102001_1 + (wrap64 (x8_9 * x103001_1)))) (wrap64 (x103000_1 + (wrap64 ((ji22) * (wrap64 (x102000_1 + (wrap64 (x8_9 * x103000_1)))))))) (wrap64 (x103001_1 + (wrap64 ((ji22) * (wrap64 (x102001_1 + (wrap64 (x8_9 * x103001_1)))))))))) = some (r1, r2, r3, r4) := by first | (rw [hji22] at H; exact H) | (simp only [hji22] at H ⊢; exact H)
                  have hji22_ : (if (wrap64 (Int.tdiv (wrap64 ((wrap64 ((wrap64 (x103000_1 * a1)) - (wrap64 (a0 * x103001_1)))) - 1)) (wrap64 ((wrap64 (a0 * (wrap64 (x102001_1 + (wrap64 (x8_9 * x103001_1)))))) - (wrap64 ((wrap64 (x102000_1 + (wrap64 (x8_9 * x103000_1)))) * a1)))))) < (wrap64 (Int.tdiv (wrap64 (a2 - x103001_1)) (wrap64 (x102001_1 + (wrap64 (x8_9 * x103001_1)))))) then (wrap64 (Int.tdiv (wrap64 ((wrap64 ((wrap64 (x103000_1 * a1)) - (wrap64 (a0 * x103001_1)))) - 1)) (wrap64 ((wrap64 (a0 * (wrap64 (x102001_1 + (wrap64 (x8_9 * x103001_1)))))) - (wrap64 ((wrap64 (x102000_1 + (wrap64 (x8_9 * x103000_1)))) * a1)))))) else (wrap64 (Int.tdiv (wrap64 (a2 - x103001_1)) (wrap64 (x102001_1 + (wrap64 (x8_9 * x103001_1))))))) = ji22 := hji22
                  by_cases c23 : x8_9 = 0
                  · rw [if_pos c23] at H
                    have c23b0 : (x8_9 == 0) = true := beq_iff_eq.mpr c23
                    have c23b1 : (x8_9 != 0) = false := bne_eq_false_iff_eq.mpr c23
                    clear c23
                    by_cases c24 : (ji22) = 0
                    · rw [if_pos c24] at H
                      have c24b0 : ((ji22) == 0) = true := beq_iff_eq.mpr c24
                      have c24b1 : ((ji22) != 0) = false := bne_eq_false_iff_eq.mpr c24
                      clear c24
                      simp only [Option.some.injEq, Prod.mk.injEq] at H
                      obtain ⟨rfl, rfl, rfl, rfl⟩ := H
                      have hnb25 := NB101_102.out
                      have hnc25 := NB102_101.out
                      have hcz26_0 : wc.cell? ⟨gb101, 0, none⟩ = some (.int .i64 x102000_1) := (blk_cell BK101.out 0).trans rfl
                      have hcz26_1 : wc.cell? ⟨gb101, 1, none⟩ = some (.int .i64 x102001_1) := (blk_cell BK101.out 1).trans rfl
                      have hfz26_0 := blk_frozen BK101.out 0
                      have hfz26_1 := blk_frozen BK101.out 1
                      have hcz27_0 : wc.cell? ⟨gb102, 0, none⟩ = some (.int .i64 x103000_1) := (blk_cell BK102.out 0).trans rfl
                      have hcz27_1 : wc.cell? ⟨gb102, 1, none⟩ = some (.int .i64 x103001_1) := (blk_cell BK102.out 1).trans rfl
                      have hfz27_0 := blk_frozen BK102.out 0
                      have hfz27_1 := blk_frozen BK102.out 1
                      go_upto_region 13 with (fail)
                      have k1_ : ((((wc.setCell ⟨gb101, 0, none⟩ (.int .i64 (wrap64 (x102000_1 + (wrap64 (x8_9 * x103000_1)))))).setCell ⟨gb101, 1, none⟩ (.int .i64 (wrap64 (x102001_1 + (wrap64 (x8_9 * x103001_1)))))).setCell ⟨gb102, 0, none⟩ (.int .i64 (wrap64 (x103000_1 + (wrap64 ((ji22) * (wrap64 (x102000_1 + (wrap64 (x8_9 * x103000_1)))))))))).setCell ⟨gb102, 1, none⟩ (.int .i64 (wrap64 (x103001_1 + (wrap64 ((ji22) * (wrap64 (x102001_1 + (wrap64 (x8_9 * x103001_1)))))))))).heap[gb101]? = some (.cells #[.int .i64 (wrap64 (x102000_1 + (wrap64 (x8_9 * x103000_1)))), .int .i64 (wrap64 (x102001_1 + (wrap64 (x8_9 * x103001_1))))] 23 (0, 0)) := (by (with_reducible repeat (first | refine blk_drewN ?_ _ | refine blk_drew ?_ | refine blk_alloc ?_ _)); refine blk_far ?_ NB101_102.out _; (with_reducible repeat (first | refine blk_drewN ?_ _ | refine blk_drew ?_ | refine blk_alloc ?_ _)); refine blk_far ?_ NB101_102.out _; (with_reducible repeat (first | refine blk_drewN ?_ _ | refine blk_drew ?_ | refine blk_alloc ?_ _)); refine blk_put (cs := #[.int .i64 (wrap64 (x102000_1 + (wrap64 (x8_9 * x103000_1)))), .int .i64 x102001_1]) ?_ 1 _ rfl; (with_reducible repeat (first | refine blk_drewN ?_ _ | refine blk_drew ?_ | refine blk_alloc ?_ _)); refine blk_put (cs := #[.int .i64 x102000_1, .int .i64 x102001_1]) ?_ 0 _ rfl; (with_reducible repeat (first | refine blk_drewN ?_ _ | refine blk_drew ?_ | refine blk_alloc ?_ _)); exact BK101.out)
                      have k2_ : ((((wc.setCell ⟨gb101, 0, none⟩ (.int .i64 (wrap64 (x102000_1 + (wrap64 (x8_9 * x103000_1)))))).setCell ⟨gb101, 1, none⟩ (.int .i64 (wrap64 (x102001_1 + (wrap64 (x8_9 * x103001_1)))))).setCell ⟨gb102, 0, none⟩ (.int .i64 (wrap64 (x103000_1 + (wrap64 ((ji22) * (wrap64 (x102000_1 + (wrap64 (x8_9 * x103000_1)))))))))).setCell ⟨gb102, 1, none⟩ (.int .i64 (wrap64 (x103001_1 + (wrap64 ((ji22) * (wrap64 (x102001_1 + (wrap64 (x8_9 * x103001_1)))))))))).heap[gb102]? = some (.cells #[.int .i64 (wrap64 (x103000_1 + (wrap64 ((ji22) * (wrap64 (x102000_1 + (wrap64 (x8_9 * x103000_1)))))))), .int .i64 (wrap64 (x103001_1 + (wrap64 ((ji22) * (wrap64 (x102001_1 + (wrap64 (x8_9 * x103001_1))))))))] 23 (0, 0)) := (by (with_reducible repeat (first | refine blk_drewN ?_ _ | refine blk_drew ?_ | refine blk_alloc ?_ _)); refine blk_put (cs := #[.int .i64 (wrap64 (x103000_1 + (wrap64 ((ji22) * (wrap64 (x102000_1 + (wrap64 (x8_9 * x103000_1)))))))), .int .i64 x103001_1]) ?_ 1 _ rfl; (with_reducible repeat (first | refine blk_drewN ?_ _ | refine blk_drew ?_ | refine blk_alloc ?_ _)); refine blk_put (cs := #[.int .i64 x103000_1, .int .i64 x103001_1]) ?_ 0 _ rfl; (with_reducible repeat (first | refine blk_drewN ?_ _ | refine blk_drew ?_ | refine blk_alloc ?_ _)); refine blk_far ?_ NB102_101.out _; (with_reducible repeat (first | refine blk_drewN ?_ _ | refine blk_drew ?_ | refine blk_alloc ?_ _)); refine blk_far ?_ NB102_101.out _; (with_reducible repeat (first | refine blk_drewN ?_ _ | refine blk_drew ?_ | refine blk_alloc ?_ _)); exact BK102.out)
                      have kb_ : Below w.heap.size w ((((wc.setCell ⟨gb101, 0, none⟩ (.int .i64 (wrap64 (x102000_1 + (wrap64 (x8_9 * x103000_1)))))).setCell ⟨gb101, 1, none⟩ (.int .i64 (wrap64 (x102001_1 + (wrap64 (x8_9 * x103001_1)))))).setCell ⟨gb102, 0, none⟩ (.int .i64 (wrap64 (x103000_1 + (wrap64 ((ji22) * (wrap64 (x102000_1 + (wrap64 (x8_9 * x103000_1)))))))))).setCell ⟨gb102, 1, none⟩ (.int .i64 (wrap64 (x103001_1 + (wrap64 ((ji22) * (wrap64 (x102001_1 + (wrap64 (x8_9 * x103001_1)))))))))) := (q2_ HB.out GE101.out GE102.out)
                      generalize ((((wc.setCell ⟨gb101, 0, none⟩ (.int .i64 (wrap64 (x102000_1 + (wrap64 (x8_9 * x103000_1)))))).setCell ⟨gb101, 1, none⟩ (.int .i64 (wrap64 (x102001_1 + (wrap64 (x8_9 * x103001_1)))))).setCell ⟨gb102, 0, none⟩ (.int .i64 (wrap64 (x103000_1 + (wrap64 ((ji22) * (wrap64 (x102000_1 + (wrap64 (x8_9 * x103000_1)))))))))).setCell ⟨gb102, 1, none⟩ (.int .i64 (wrap64 (x103001_1 + (wrap64 ((ji22) * (wrap64 (x102001_1 + (wrap64 (x8_9 * x103001_1)))))))))) = W_ at k1_ k2_ kb_ ⊢
                      have cek1_0 := (blk_cell k1_ 0).trans rfl
                      have cfk1_0 := blk_frozen k1_ 0
                      have cek1_1 := (blk_cell k1_ 1).trans rfl
                      have cfk1_1 := blk_frozen k1_ 1
                      have cek2_0 := (blk_cell k2_ 0).trans rfl
                      have cfk2_0 := blk_frozen k2_ 0
                      have cek2_1 := (blk_cell k2_ 1).trans rfl
                      have cfk2_1 := blk_frozen k2_ 1
                      have HK1_ := Aside0.mk k1_
                      have HK2_ := Aside0.mk k2_
                      clear k1_ k2_
                      refine start_ (n := 4) (S := fun w' => w' = W_.drew) (ds := []) #[false, false, false, false] (by kernel_rfl) rfl rfl rfl (fun hHeld => ?_)
                      refine take_ (i := 0) (N := some 113) (v := ?_) (a' := ?_) #[true, false, false, false] rfl rfl (by kernel_rfl) (fun _ _ _ h => h) (Or.inl ⟨by rfl, ?_⟩) hHeld ?_ ?_
                      rotate_left
                      · rintro w' rfl
                        go_simp
                        with_reducible rfl
                      rotate_left
                      · simp only [Act.put, List.setIfInBounds_toArray, List.set_cons_zero, List.set_cons_succ, i64_w, i32_w]
                        rfl
                      refine take_ (i := 1) (N := some 114) (v := ?_) (a' := ?_) #[true, true, false, false] rfl rfl (by kernel_rfl) (fun _ _ _ h => h) (Or.inl ⟨by rfl, ?_⟩) hHeld ?_ ?_
                      rotate_left
                      · rintro w' rfl
                        go_simp
                        with_reducible rfl
                      rotate_left
                      · simp only [Act.put, List.setIfInBounds_toArray, List.set_cons_zero, List.set_cons_succ, i64_w, i32_w]
                        rfl
                      refine one_ (i := 2) (N := none) #[true, true, true, false] rfl rfl (by kernel_rfl) (by decide) (fun K hK => ?_)
                      refine skip_ (w1 := ?_) (by rfl) rfl ?_ ?_
                      rotate_left
                      · go_simp
                        with_reducible rfl
                      refine hK.out _ _ (congrArg World.drew (self2_ HK1_.out)) (fun hHeld => ?_)
                      clear hK K
                      rw [self2_ HK1_.out]
                      refine one_ (i := 3) (N := none) #[true, true, true, true] rfl rfl (by kernel_rfl) (by decide) (fun K hK => ?_)
                      refine skip_ (w1 := ?_) (by rfl) rfl ?_ ?_
                      rotate_left
                      · go_simp
                        with_reducible rfl
                      refine hK.out _ _ (congrArg World.drew (self2_ HK2_.out)) (fun hHeld => ?_)
                      clear hK K
                      rw [self2_ HK2_.out]
                      refine done_ (by kernel_rfl) ?_
                      go_wp2
                      refine bodyPost_ret (results_cc rfl _ _ gb101 gb102 23 23 #[.int .i64 (wrap64 (x102000_1 + (wrap64 (x8_9 * x103000_1)))), .int .i64 (wrap64 (x102001_1 + (wrap64 (x8_9 * x103001_1))))] #[.int .i64 (wrap64 (x103000_1 + (wrap64 ((ji22) * (wrap64 (x102000_1 + (wrap64 (x8_9 * x103000_1)))))))), .int .i64 (wrap64 (x103001_1 + (wrap64 ((ji22) * (wrap64 (x102001_1 + (wrap64 (x8_9 * x103001_1))))))))] (0, 0) (0, 0) _ _ rfl HK1_.out Tryd.underlying23 rfl (by kernel_rfl) rfl HK2_.out Tryd.underlying23 rfl (by kernel_rfl)) rfl ?_
                      exact ⟨by first | rfl | (simp [errW_none, errW_some] <;> rfl) | (simp only [← hji22]; first | rfl | (simp [errW_none, errW_some] <;> rfl)) | (simp [*, errW_none, errW_some] <;> rfl), pw_below_drewN kb_ 1⟩
                    · rw [if_neg c24] at H
                      have c24b0 : ((ji22) == 0) = false := beq_eq_false_iff_ne.mpr c24
                      have c24b1 : ((ji22) != 0) = true := bne_iff_ne.mpr c24
                      have H' := Aside0.mk H
                      clear H
                      have hnb28 := NB101_102.out
                      have hnc28 := NB102_101.out
                      have hcz29_0 : wc.cell? ⟨gb101, 0, none⟩ = some (.int .i64 x102000_1) := (blk_cell BK101.out 0).trans rfl
                      have hcz29_1 : wc.cell? ⟨gb101, 1, none⟩ = some (.int .i64 x102001_1) := (blk_cell BK101.out 1).trans rfl
                      have hfz29_0 := blk_frozen BK101.out 0
                      have hfz29_1 := blk_frozen BK101.out 1
                      have hcz30_0 : wc.cell? ⟨gb102, 0, none⟩ = some (.int .i64 x103000_1) := (blk_cell BK102.out 0).trans rfl
                      have hcz30_1 : wc.cell? ⟨gb102, 1, none⟩ = some (.int .i64 x103001_1) := (blk_cell BK102.out 1).trans rfl
                      have hfz30_0 := blk_frozen BK102.out 0
                      have hfz30_1 := blk_frozen BK102.out 1
                      go_wp2
                      go_roundg kj9
                      case measure => have := HK1.out; have := HJ9.out; omega
                      case rel => exact ⟨(wrap64 (x102000_1 + (wrap64 (x8_9 * x103000_1)))), (wrap64 (x102001_1 + (wrap64 (x8_9 * x103001_1)))), (wrap64 (x103000_1 + (wrap64 ((ji22) * (wrap64 (x102000_1 + (wrap64 (x8_9 * x103000_1)))))))), (wrap64 (x103001_1 + (wrap64 ((ji22) * (wrap64 (x102001_1 + (wrap64 (x8_9 * x103001_1)))))))), H', ⟨by have := HK1.out; have := HJ9.out; omega⟩, ⟨by (with_reducible repeat (first | refine blk_drewN ?_ _ | refine blk_drew ?_ | refine blk_alloc ?_ _)); refine blk_far ?_ NB101_102.out _; (with_reducible repeat (first | refine blk_drewN ?_ _ | refine blk_drew ?_ | refine blk_alloc ?_ _)); refine blk_far ?_ NB101_102.out _; (with_reducible repeat (first | refine blk_drewN ?_ _ | refine blk_drew ?_ | refine blk_alloc ?_ _)); refine blk_put (cs := #[.int .i64 (wrap64 (x102000_1 + (wrap64 (x8_9 * x103000_1)))), .int .i64 x102001_1]) ?_ 1 _ rfl; (with_reducible repeat (first | refine blk_drewN ?_ _ | refine blk_drew ?_ | refine blk_alloc ?_ _)); refine blk_put (cs := #[.int .i64 x102000_1, .int .i64 x102001_1]) ?_ 0 _ rfl; (with_reducible repeat (first | refine blk_drewN ?_ _ | refine blk_drew ?_ | refine blk_alloc ?_ _)); exact BK101.out⟩, ⟨by (with_reducible repeat (first | refine blk_drewN ?_ _ | refine blk_drew ?_ | refine blk_alloc ?_ _)); refine blk_put (cs := #[.int .i64 (wrap64 (x103000_1 + (wrap64 ((ji22) * (wrap64 (x102000_1 + (wrap64 (x8_9 * x103000_1)))))))), .int .i64 x103001_1]) ?_ 1 _ rfl; (with_reducible repeat (first | refine blk_drewN ?_ _ | refine blk_drew ?_ | refine blk_alloc ?_ _)); refine blk_put (cs := #[.int .i64 x103000_1, .int .i64 x103001_1]) ?_ 0 _ rfl; (with_reducible repeat (first | refine blk_drewN ?_ _ | refine blk_drew ?_ | refine blk_alloc ?_ _)); refine blk_far ?_ NB102_101.out _; (with_reducible repeat (first | refine blk_drewN ?_ _ | refine blk_drew ?_ | refine blk_alloc ?_ _)); refine blk_far ?_ NB102_101.out _; (with_reducible repeat (first | refine blk_drewN ?_ _ | refine blk_drew ?_ | refine blk_alloc ?_ _)); exact BK102.out⟩, ⟨(q2_ HB.out GE101.out GE102.out)⟩⟩
                  · rw [if_neg c23] at H
                    have c23b0 : (x8_9 == 0) = false := beq_eq_false_iff_ne.mpr c23
                    have c23b1 : (x8_9 != 0) = true := bne_iff_ne.mpr c23
                    have H' := Aside0.mk H
                    clear H
                    have hnb31 := NB101_102.out
                    have hnc31 := NB102_101.out
                    have hcz32_0 : wc.cell? ⟨gb101, 0, none⟩ = some (.int .i64 x102000_1) := (blk_cell BK101.out 0).trans rfl
                    have hcz32_1 : wc.cell? ⟨gb101, 1, none⟩ = some (.int .i64 x102001_1) := (blk_cell BK101.out 1).trans rfl
                    have hfz32_0 := blk_frozen BK101.out 0
                    have hfz32_1 := blk_frozen BK101.out 1
                    have hcz33_0 : wc.cell? ⟨gb102, 0, none⟩ = some (.int .i64 x103000_1) := (blk_cell BK102.out 0).trans rfl
                    have hcz33_1 : wc.cell? ⟨gb102, 1, none⟩ = some (.int .i64 x103001_1) := (blk_cell BK102.out 1).trans rfl
                    have hfz33_0 := blk_frozen BK102.out 0
                    have hfz33_1 := blk_frozen BK102.out 1
                    go_wp2
                    go_roundg kj9
                    case measure => have := HK1.out; have := HJ9.out; omega
                    case rel => exact ⟨(wrap64 (x102000_1 + (wrap64 (x8_9 * x103000_1)))), (wrap64 (x102001_1 + (wrap64 (x8_9 * x103001_1)))), (wrap64 (x103000_1 + (wrap64 ((ji22) * (wrap64 (x102000_1 + (wrap64 (x8_9 * x103000_1)))))))), (wrap64 (x103001_1 + (wrap64 ((ji22) * (wrap64 (x102001_1 + (wrap64 (x8_9 * x103001_1)))))))), H', ⟨by have := HK1.out; have := HJ9.out; omega⟩, ⟨by (with_reducible repeat (first | refine blk_drewN ?_ _ | refine blk_drew ?_ | refine blk_alloc ?_ _)); refine blk_far ?_ NB101_102.out _; (with_reducible repeat (first | refine blk_drewN ?_ _ | refine blk_drew ?_ | refine blk_alloc ?_ _)); refine blk_far ?_ NB101_102.out _; (with_reducible repeat (first | refine blk_drewN ?_ _ | refine blk_drew ?_ | refine blk_alloc ?_ _)); refine blk_put (cs := #[.int .i64 (wrap64 (x102000_1 + (wrap64 (x8_9 * x103000_1)))), .int .i64 x102001_1]) ?_ 1 _ rfl; (with_reducible repeat (first | refine blk_drewN ?_ _ | refine blk_drew ?_ | refine blk_alloc ?_ _)); refine blk_put (cs := #[.int .i64 x102000_1, .int .i64 x102001_1]) ?_ 0 _ rfl; (with_reducible repeat (first | refine blk_drewN ?_ _ | refine blk_drew ?_ | refine blk_alloc ?_ _)); exact BK101.out⟩, ⟨by (with_reducible repeat (first | refine blk_drewN ?_ _ | refine blk_drew ?_ | refine blk_alloc ?_ _)); refine blk_put (cs := #[.int .i64 (wrap64 (x103000_1 + (wrap64 ((ji22) * (wrap64 (x102000_1 + (wrap64 (x8_9 * x103000_1)))))))), .int .i64 x103001_1]) ?_ 1 _ rfl; (with_reducible repeat (first | refine blk_drewN ?_ _ | refine blk_drew ?_ | refine blk_alloc ?_ _)); refine blk_put (cs := #[.int .i64 x103000_1, .int .i64 x103001_1]) ?_ 0 _ rfl; (with_reducible repeat (first | refine blk_drewN ?_ _ | refine blk_drew ?_ | refine blk_alloc ?_ _)); refine blk_far ?_ NB102_101.out _; (with_reducible repeat (first | refine blk_drewN ?_ _ | refine blk_drew ?_ | refine blk_alloc ?_ _)); refine blk_far ?_ NB102_101.out _; (with_reducible repeat (first | refine blk_drewN ?_ _ | refine blk_drew ?_ | refine blk_alloc ?_ _)); exact BK102.out⟩, ⟨(q2_ HB.out GE101.out GE102.out)⟩⟩
              · rw [if_neg c20] at H
                have c20b0 : decide (0 < (wrap64 ((wrap64 (a0 * (wrap64 (x102001_1 + (wrap64 (x8_9 * x103001_1)))))) - (wrap64 ((wrap64 (x102000_1 + (wrap64 (x8_9 * x103000_1)))) * a1))))) = false := decide_eq_false c20
                clear c20
                by_cases c34 : x8_9 = 0
                · rw [if_pos c34] at H
                  have c34b0 : (x8_9 == 0) = true := beq_iff_eq.mpr c34
                  have c34b1 : (x8_9 != 0) = false := bne_eq_false_iff_eq.mpr c34
                  clear c34
                  by_cases c35 : (wrap64 (Int.tdiv (wrap64 (a2 - x103001_1)) (wrap64 (x102001_1 + (wrap64 (x8_9 * x103001_1)))))) = 0
                  · rw [if_pos c35] at H
                    have c35b0 : ((wrap64 (Int.tdiv (wrap64 (a2 - x103001_1)) (wrap64 (x102001_1 + (wrap64 (x8_9 * x103001_1)))))) == 0) = true := beq_iff_eq.mpr c35
                    have c35b1 : ((wrap64 (Int.tdiv (wrap64 (a2 - x103001_1)) (wrap64 (x102001_1 + (wrap64 (x8_9 * x103001_1)))))) != 0) = false := bne_eq_false_iff_eq.mpr c35
                    clear c35
                    simp only [Option.some.injEq, Prod.mk.injEq] at H
                    obtain ⟨rfl, rfl, rfl, rfl⟩ := H
                    have hnb36 := NB101_102.out
                    have hnc36 := NB102_101.out
                    have hcz37_0 : wc.cell? ⟨gb101, 0, none⟩ = some (.int .i64 x102000_1) := (blk_cell BK101.out 0).trans rfl
                    have hcz37_1 : wc.cell? ⟨gb101, 1, none⟩ = some (.int .i64 x102001_1) := (blk_cell BK101.out 1).trans rfl
                    have hfz37_0 := blk_frozen BK101.out 0
                    have hfz37_1 := blk_frozen BK101.out 1
                    have hcz38_0 : wc.cell? ⟨gb102, 0, none⟩ = some (.int .i64 x103000_1) := (blk_cell BK102.out 0).trans rfl
                    have hcz38_1 : wc.cell? ⟨gb102, 1, none⟩ = some (.int .i64 x103001_1) := (blk_cell BK102.out 1).trans rfl
                    have hfz38_0 := blk_frozen BK102.out 0
                    have hfz38_1 := blk_frozen BK102.out 1
                    go_upto_region 13 with (fail)
                    have k1_ : ((((wc.setCell ⟨gb101, 0, none⟩ (.int .i64 (wrap64 (x102000_1 + (wrap64 (x8_9 * x103000_1)))))).setCell ⟨gb101, 1, none⟩ (.int .i64 (wrap64 (x102001_1 + (wrap64 (x8_9 * x103001_1)))))).setCell ⟨gb102, 0, none⟩ (.int .i64 (wrap64 (x103000_1 + (wrap64 ((wrap64 (Int.tdiv (wrap64 (a2 - x103001_1)) (wrap64 (x102001_1 + (wrap64 (x8_9 * x103001_1)))))) * (wrap64 (x102000_1 + (wrap64 (x8_9 * x103000_1)))))))))).setCell ⟨gb102, 1, none⟩ (.int .i64 (wrap64 (x103001_1 + (wrap64 ((wrap64 (Int.tdiv (wrap64 (a2 - x103001_1)) (wrap64 (x102001_1 + (wrap64 (x8_9 * x103001_1)))))) * (wrap64 (x102001_1 + (wrap64 (x8_9 * x103001_1)))))))))).heap[gb101]? = some (.cells #[.int .i64 (wrap64 (x102000_1 + (wrap64 (x8_9 * x103000_1)))), .int .i64 (wrap64 (x102001_1 + (wrap64 (x8_9 * x103001_1))))] 23 (0, 0)) := (by (with_reducible repeat (first | refine blk_drewN ?_ _ | refine blk_drew ?_ | refine blk_alloc ?_ _)); refine blk_far ?_ NB101_102.out _; (with_reducible repeat (first | refine blk_drewN ?_ _ | refine blk_drew ?_ | refine blk_alloc ?_ _)); refine blk_far ?_ NB101_102.out _; (with_reducible repeat (first | refine blk_drewN ?_ _ | refine blk_drew ?_ | refine blk_alloc ?_ _)); refine blk_put (cs := #[.int .i64 (wrap64 (x102000_1 + (wrap64 (x8_9 * x103000_1)))), .int .i64 x102001_1]) ?_ 1 _ rfl; (with_reducible repeat (first | refine blk_drewN ?_ _ | refine blk_drew ?_ | refine blk_alloc ?_ _)); refine blk_put (cs := #[.int .i64 x102000_1, .int .i64 x102001_1]) ?_ 0 _ rfl; (with_reducible repeat (first | refine blk_drewN ?_ _ | refine blk_drew ?_ | refine blk_alloc ?_ _)); exact BK101.out)
                    have k2_ : ((((wc.setCell ⟨gb101, 0, none⟩ (.int .i64 (wrap64 (x102000_1 + (wrap64 (x8_9 * x103000_1)))))).setCell ⟨gb101, 1, none⟩ (.int .i64 (wrap64 (x102001_1 + (wrap64 (x8_9 * x103001_1)))))).setCell ⟨gb102, 0, none⟩ (.int .i64 (wrap64 (x103000_1 + (wrap64 ((wrap64 (Int.tdiv (wrap64 (a2 - x103001_1)) (wrap64 (x102001_1 + (wrap64 (x8_9 * x103001_1)))))) * (wrap64 (x102000_1 + (wrap64 (x8_9 * x103000_1)))))))))).setCell ⟨gb102, 1, none⟩ (.int .i64 (wrap64 (x103001_1 + (wrap64 ((wrap64 (Int.tdiv (wrap64 (a2 - x103001_1)) (wrap64 (x102001_1 + (wrap64 (x8_9 * x103001_1)))))) * (wrap64 (x102001_1 + (wrap64 (x8_9 * x103001_1)))))))))).heap[gb102]? = some (.cells #[.int .i64 (wrap64 (x103000_1 + (wrap64 ((wrap64 (Int.tdiv (wrap64 (a2 - x103001_1)) (wrap64 (x102001_1 + (wrap64 (x8_9 * x103001_1)))))) * (wrap64 (x102000_1 + (wrap64 (x8_9 * x103000_1)))))))), .int .i64 (wrap64 (x103001_1 + (wrap64 ((wrap64 (Int.tdiv (wrap64 (a2 - x103001_1)) (wrap64 (x102001_1 + (wrap64 (x8_9 * x103001_1)))))) * (wrap64 (x102001_1 + (wrap64 (x8_9 * x103001_1))))))))] 23 (0, 0)) := (by (with_reducible repeat (first | refine blk_drewN ?_ _ | refine blk_drew ?_ | refine blk_alloc ?_ _)); refine blk_put (cs := #[.int .i64 (wrap64 (x103000_1 + (wrap64 ((wrap64 (Int.tdiv (wrap64 (a2 - x103001_1)) (wrap64 (x102001_1 + (wrap64 (x8_9 * x103001_1)))))) * (wrap64 (x102000_1 + (wrap64 (x8_9 * x103000_1)))))))), .int .i64 x103001_1]) ?_ 1 _ rfl; (with_reducible repeat (first | refine blk_drewN ?_ _ | refine blk_drew ?_ | refine blk_alloc ?_ _)); refine blk_put (cs := #[.int .i64 x103000_1, .int .i64 x103001_1]) ?_ 0 _ rfl; (with_reducible repeat (first | refine blk_drewN ?_ _ | refine blk_drew ?_ | refine blk_alloc ?_ _)); refine blk_far ?_ NB102_101.out _; (with_reducible repeat (first | refine blk_drewN ?_ _ | refine blk_drew ?_ | refine blk_alloc ?_ _)); refine blk_far ?_ NB102_101.out _; (with_reducible repeat (first | refine blk_drewN ?_ _ | refine blk_drew ?_ | refine blk_alloc ?_ _)); exact BK102.out)
                    have kb_ : Below w.heap.size w ((((wc.setCell ⟨gb101, 0, none⟩ (.int .i64 (wrap64 (x102000_1 + (wrap64 (x8_9 * x103000_1)))))).setCell ⟨gb101, 1, none⟩ (.int .i64 (wrap64 (x102001_1 + (wrap64 (x8_9 * x103001_1)))))).setCell ⟨gb102, 0, none⟩ (.int .i64 (wrap64 (x103000_1 + (wrap64 ((wrap64 (Int.tdiv (wrap64 (a2 - x103001_1)) (wrap64 (x102001_1 + (wrap64 (x8_9 * x103001_1)))))) * (wrap64 (x102000_1 + (wrap64 (x8_9 * x103000_1)))))))))).setCell ⟨gb102, 1, none⟩ (.int .i64 (wrap64 (x103001_1 + (wrap64 ((wrap64 (Int.tdiv (wrap64 (a2 - x103001_1)) (wrap64 (x102001_1 + (wrap64 (x8_9 * x103001_1)))))) * (wrap64 (x102001_1 + (wrap64 (x8_9 * x103001_1)))))))))) := (q2_ HB.out GE101.out GE102.out)
                    generalize ((((wc.setCell ⟨gb101, 0, none⟩ (.int .i64 (wrap64 (x102000_1 + (wrap64 (x8_9 * x103000_1)))))).setCell ⟨gb101, 1, none⟩ (.int .i64 (wrap64 (x102001_1 + (wrap64 (x8_9 * x103001_1)))))).setCell ⟨gb102, 0, none⟩ (.int .i64 (wrap64 (x103000_1 + (wrap64 ((wrap64 (Int.tdiv (wrap64 (a2 - x103001_1)) (wrap64 (x102001_1 + (wrap64 (x8_9 * x103001_1)))))) * (wrap64 (x102000_1 + (wrap64 (x8_9 * x103000_1)))))))))).setCell ⟨gb102, 1, none⟩ (.int .i64 (wrap64 (x103001_1 + (wrap64 ((wrap64 (Int.tdiv (wrap64 (a2 - x103001_1)) (wrap64 (x102001_1 + (wrap64 (x8_9 * x103001_1)))))) * (wrap64 (x102001_1 + (wrap64 (x8_9 * x103001_1)))))))))) = W_ at k1_ k2_ kb_ ⊢
                    have cek1_0 := (blk_cell k1_ 0).trans rfl
                    have cfk1_0 := blk_frozen k1_ 0
                    have cek1_1 := (blk_cell k1_ 1).trans rfl
                    have cfk1_1 := blk_frozen k1_ 1
                    have cek2_0 := (blk_cell k2_ 0).trans rfl
                    have cfk2_0 := blk_frozen k2_ 0
                    have cek2_1 := (blk_cell k2_ 1).trans rfl
                    have cfk2_1 := blk_frozen k2_ 1
                    have HK1_ := Aside0.mk k1_
                    have HK2_ := Aside0.mk k2_
                    clear k1_ k2_
                    refine start_ (n := 4) (S := fun w' => w' = W_.drew) (ds := []) #[false, false, false, false] (by kernel_rfl) rfl rfl rfl (fun hHeld => ?_)
                    refine take_ (i := 0) (N := some 113) (v := ?_) (a' := ?_) #[true, false, false, false] rfl rfl (by kernel_rfl) (fun _ _ _ h => h) (Or.inl ⟨by rfl, ?_⟩) hHeld ?_ ?_
                    rotate_left
                    · rintro w' rfl
                      go_simp
                      with_reducible rfl
                    rotate_left
                    · simp only [Act.put, List.setIfInBounds_toArray, List.set_cons_zero, List.set_cons_succ, i64_w, i32_w]
                      rfl
                    refine take_ (i := 1) (N := some 114) (v := ?_) (a' := ?_) #[true, true, false, false] rfl rfl (by kernel_rfl) (fun _ _ _ h => h) (Or.inl ⟨by rfl, ?_⟩) hHeld ?_ ?_
                    rotate_left
                    · rintro w' rfl
                      go_simp
                      with_reducible rfl
                    rotate_left
                    · simp only [Act.put, List.setIfInBounds_toArray, List.set_cons_zero, List.set_cons_succ, i64_w, i32_w]
                      rfl
                    refine one_ (i := 2) (N := none) #[true, true, true, false] rfl rfl (by kernel_rfl) (by decide) (fun K hK => ?_)
                    refine skip_ (w1 := ?_) (by rfl) rfl ?_ ?_
                    rotate_left
                    · go_simp
                      with_reducible rfl
                    refine hK.out _ _ (congrArg World.drew (self2_ HK1_.out)) (fun hHeld => ?_)
                    clear hK K
                    rw [self2_ HK1_.out]
                    refine one_ (i := 3) (N := none) #[true, true, true, true] rfl rfl (by kernel_rfl) (by decide) (fun K hK => ?_)
                    refine skip_ (w1 := ?_) (by rfl) rfl ?_ ?_
                    rotate_left
                    · go_simp
                      with_reducible rfl
                    refine hK.out _ _ (congrArg World.drew (self2_ HK2_.out)) (fun hHeld => ?_)
                    clear hK K
                    rw [self2_ HK2_.out]
                    refine done_ (by kernel_rfl) ?_
                    go_wp2
                    refine bodyPost_ret (results_cc rfl _ _ gb101 gb102 23 23 #[.int .i64 (wrap64 (x102000_1 + (wrap64 (x8_9 * x103000_1)))), .int .i64 (wrap64 (x102001_1 + (wrap64 (x8_9 * x103001_1))))] #[.int .i64 (wrap64 (x103000_1 + (wrap64 ((wrap64 (Int.tdiv (wrap64 (a2 - x103001_1)) (wrap64 (x102001_1 + (wrap64 (x8_9 * x103001_1)))))) * (wrap64 (x102000_1 + (wrap64 (x8_9 * x103000_1)))))))), .int .i64 (wrap64 (x103001_1 + (wrap64 ((wrap64 (Int.tdiv (wrap64 (a2 - x103001_1)) (wrap64 (x102001_1 + (wrap64 (x8_9 * x103001_1)))))) * (wrap64 (x102001_1 + (wrap64 (x8_9 * x103001_1))))))))] (0, 0) (0, 0) _ _ rfl HK1_.out Tryd.underlying23 rfl (by kernel_rfl) rfl HK2_.out Tryd.underlying23 rfl (by kernel_rfl)) rfl ?_
                    exact ⟨by first | rfl | (simp [errW_none, errW_some] <;> rfl) | (simp [*, errW_none, errW_some] <;> rfl), pw_below_drewN kb_ 1⟩
                  · rw [if_neg c35] at H
                    have c35b0 : ((wrap64 (Int.tdiv (wrap64 (a2 - x103001_1)) (wrap64 (x102001_1 + (wrap64 (x8_9 * x103001_1)))))) == 0) = false := beq_eq_false_iff_ne.mpr c35
                    have c35b1 : ((wrap64 (Int.tdiv (wrap64 (a2 - x103001_1)) (wrap64 (x102001_1 + (wrap64 (x8_9 * x103001_1)))))) != 0) = true := bne_iff_ne.mpr c35
                    have H' := Aside0.mk H
                    clear H
                    have hnb39 := NB101_102.out
                    have hnc39 := NB102_101.out
                    have hcz40_0 : wc.cell? ⟨gb101, 0, none⟩ = some (.int .i64 x102000_1) := (blk_cell BK101.out 0).trans rfl
                    have hcz40_1 : wc.cell? ⟨gb101, 1, none⟩ = some (.int .i64 x102001_1) := (blk_cell BK101.out 1).trans rfl
                    have hfz40_0 := blk_frozen BK101.out 0
                    have hfz40_1 := blk_frozen BK101.out 1
                    have hcz41_0 : wc.cell? ⟨gb102, 0, none⟩ = some (.int .i64 x103000_1) := (blk_cell BK102.out 0).trans rfl
                    have hcz41_1 : wc.cell? ⟨gb102, 1, none⟩ = some (.int .i64 x103001_1) := (blk_cell BK102.out 1).trans rfl
                    have hfz41_0 := blk_frozen BK102.out 0
                    have hfz41_1 := blk_frozen BK102.out 1
                    go_wp2
                    go_roundg kj9
                    case measure => have := HK1.out; have := HJ9.out; omega
                    case rel => exact ⟨(wrap64 (x102000_1 + (wrap64 (x8_9 * x103000_1)))), (wrap64 (x102001_1 + (wrap64 (x8_9 * x103001_1)))), (wrap64 (x103000_1 + (wrap64 ((wrap64 (Int.tdiv (wrap64 (a2 - x103001_1)) (wrap64 (x102001_1 + (wrap64 (x8_9 * x103001_1)))))) * (wrap64 (x102000_1 + (wrap64 (x8_9 * x103000_1)))))))), (wrap64 (x103001_1 + (wrap64 ((wrap64 (Int.tdiv (wrap64 (a2 - x103001_1)) (wrap64 (x102001_1 + (wrap64 (x8_9 * x103001_1)))))) * (wrap64 (x102001_1 + (wrap64 (x8_9 * x103001_1)))))))), H', ⟨by have := HK1.out; have := HJ9.out; omega⟩, ⟨by (with_reducible repeat (first | refine blk_drewN ?_ _ | refine blk_drew ?_ | refine blk_alloc ?_ _)); refine blk_far ?_ NB101_102.out _; (with_reducible repeat (first | refine blk_drewN ?_ _ | refine blk_drew ?_ | refine blk_alloc ?_ _)); refine blk_far ?_ NB101_102.out _; (with_reducible repeat (first | refine blk_drewN ?_ _ | refine blk_drew ?_ | refine blk_alloc ?_ _)); refine blk_put (cs := #[.int .i64 (wrap64 (x102000_1 + (wrap64 (x8_9 * x103000_1)))), .int .i64 x102001_1]) ?_ 1 _ rfl; (with_reducible repeat (first | refine blk_drewN ?_ _ | refine blk_drew ?_ | refine blk_alloc ?_ _)); refine blk_put (cs := #[.int .i64 x102000_1, .int .i64 x102001_1]) ?_ 0 _ rfl; (with_reducible repeat (first | refine blk_drewN ?_ _ | refine blk_drew ?_ | refine blk_alloc ?_ _)); exact BK101.out⟩, ⟨by (with_reducible repeat (first | refine blk_drewN ?_ _ | refine blk_drew ?_ | refine blk_alloc ?_ _)); refine blk_put (cs := #[.int .i64 (wrap64 (x103000_1 + (wrap64 ((wrap64 (Int.tdiv (wrap64 (a2 - x103001_1)) (wrap64 (x102001_1 + (wrap64 (x8_9 * x103001_1)))))) * (wrap64 (x102000_1 + (wrap64 (x8_9 * x103000_1)))))))), .int .i64 x103001_1]) ?_ 1 _ rfl; (with_reducible repeat (first | refine blk_drewN ?_ _ | refine blk_drew ?_ | refine blk_alloc ?_ _)); refine blk_put (cs := #[.int .i64 x103000_1, .int .i64 x103001_1]) ?_ 0 _ rfl; (with_reducible repeat (first | refine blk_drewN ?_ _ | refine blk_drew ?_ | refine blk_alloc ?_ _)); refine blk_far ?_ NB102_101.out _; (with_reducible repeat (first | refine blk_drewN ?_ _ | refine blk_drew ?_ | refine blk_alloc ?_ _)); refine blk_far ?_ NB102_101.out _; (with_reducible repeat (first | refine blk_drewN ?_ _ | refine blk_drew ?_ | refine blk_alloc ?_ _)); exact BK102.out⟩, ⟨(q2_ HB.out GE101.out GE102.out)⟩⟩
                · rw [if_neg c34] at H
                  have c34b0 : (x8_9 == 0) = false := beq_eq_false_iff_ne.mpr c34
                  have c34b1 : (x8_9 != 0) = true := bne_iff_ne.mpr c34
                  have H' := Aside0.mk H
                  clear H
                  have hnb42 := NB101_102.out
                  have hnc42 := NB102_101.out
                  have hcz43_0 : wc.cell? ⟨gb101, 0, none⟩ = some (.int .i64 x102000_1) := (blk_cell BK101.out 0).trans rfl
                  have hcz43_1 : wc.cell? ⟨gb101, 1, none⟩ = some (.int .i64 x102001_1) := (blk_cell BK101.out 1).trans rfl
                  have hfz43_0 := blk_frozen BK101.out 0
                  have hfz43_1 := blk_frozen BK101.out 1
                  have hcz44_0 : wc.cell? ⟨gb102, 0, none⟩ = some (.int .i64 x103000_1) := (blk_cell BK102.out 0).trans rfl
                  have hcz44_1 : wc.cell? ⟨gb102, 1, none⟩ = some (.int .i64 x103001_1) := (blk_cell BK102.out 1).trans rfl
                  have hfz44_0 := blk_frozen BK102.out 0
                  have hfz44_1 := blk_frozen BK102.out 1
                  go_wp2
                  go_roundg kj9
                  case measure => have := HK1.out; have := HJ9.out; omega
                  case rel => exact ⟨(wrap64 (x102000_1 + (wrap64 (x8_9 * x103000_1)))), (wrap64 (x102001_1 + (wrap64 (x8_9 * x103001_1)))), (wrap64 (x103000_1 + (wrap64 ((wrap64 (Int.tdiv (wrap64 (a2 - x103001_1)) (wrap64 (x102001_1 + (wrap64 (x8_9 * x103001_1)))))) * (wrap64 (x102000_1 + (wrap64 (x8_9 * x103000_1)))))))), (wrap64 (x103001_1 + (wrap64 ((wrap64 (Int.tdiv (wrap64 (a2 - x103001_1)) (wrap64 (x102001_1 + (wrap64 (x8_9 * x103001_1)))))) * (wrap64 (x102001_1 + (wrap64 (x8_9 * x103001_1)))))))), H', ⟨by have := HK1.out; have := HJ9.out; omega⟩, ⟨by (with_reducible repeat (first | refine blk_drewN ?_ _ | refine blk_drew ?_ | refine blk_alloc ?_ _)); refine blk_far ?_ NB101_102.out _; (with_reducible repeat (first | refine blk_drewN ?_ _ | refine blk_drew ?_ | refine blk_alloc ?_ _)); refine blk_far ?_ NB101_102.out _; (with_reducible repeat (first | refine blk_drewN ?_ _ | refine blk_drew ?_ | refine blk_alloc ?_ _)); refine blk_put (cs := #[.int .i64 (wrap64 (x102000_1 + (wrap64 (x8_9 * x103000_1)))), .int .i64 x102001_1]) ?_ 1 _ rfl; (with_reducible repeat (first | refine blk_drewN ?_ _ | refine blk_drew ?_ | refine blk_alloc ?_ _)); refine blk_put (cs := #[.int .i64 x102000_1, .int .i64 x102001_1]) ?_ 0 _ rfl; (with_reducible repeat (first | refine blk_drewN ?_ _ | refine blk_drew ?_ | refine blk_alloc ?_ _)); exact BK101.out⟩, ⟨by (with_reducible repeat (first | refine blk_drewN ?_ _ | refine blk_drew ?_ | refine blk_alloc ?_ _)); refine blk_put (cs := #[.int .i64 (wrap64 (x103000_1 + (wrap64 ((wrap64 (Int.tdiv (wrap64 (a2 - x103001_1)) (wrap64 (x102001_1 + (wrap64 (x8_9 * x103001_1)))))) * (wrap64 (x102000_1 + (wrap64 (x8_9 * x103000_1)))))))), .int .i64 x103001_1]) ?_ 1 _ rfl; (with_reducible repeat (first | refine blk_drewN ?_ _ | refine blk_drew ?_ | refine blk_alloc ?_ _)); refine blk_put (cs := #[.int .i64 x103000_1, .int .i64 x103001_1]) ?_ 0 _ rfl; (with_reducible repeat (first | refine blk_drewN ?_ _ | refine blk_drew ?_ | refine blk_alloc ?_ _)); refine blk_far ?_ NB102_101.out _; (with_reducible repeat (first | refine blk_drewN ?_ _ | refine blk_drew ?_ | refine blk_alloc ?_ _)); refine blk_far ?_ NB102_101.out _; (with_reducible repeat (first | refine blk_drewN ?_ _ | refine blk_drew ?_ | refine blk_alloc ?_ _)); exact BK102.out⟩, ⟨(q2_ HB.out GE101.out GE102.out)⟩⟩
end Go.Proofs.YtdjnneflpkllmaaDoor.Q
