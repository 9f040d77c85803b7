-- printed
import Derived.Test.YtdjnneflpkllmaaGreatDoorRB
namespace Go.Proofs.YtdjnneflpkllmaaGreatDoor.Q
open Go.RowKit Go.Proofs.YtdjnneflpkllmaaGreatDoorW.PrintWords Go.Proofs.YtdjnneflpkllmaaGreatDoorW.PrintLast Go.Proofs.YtdjnneflpkllmaaGreatDoorW.PrintMore
attribute [local go_sem] max2_int min2_int max_two min_two max_three min_three max_four min_four   -- for this text's walks alone
set_option linter.unusedVariables false
set_option linter.unusedSimpArgs false

-- NOT PRINTED: function 87 (strconv_ParseUint)

-- NOT PRINTED: function 64 (strconv_ParseInt)

-- NOT PRINTED: function 44 (strconv_Atoi_44)

-- NOT PRINTED: function 88 (stringslite_Clone)

-- NOT PRINTED: function 65 (strconv_syntaxError)

-- NOT PRINTED: function 66 (strconv_rangeError)

-- NOT PRINTED: function 89 (errors_New)

-- NOT PRINTED: function 67 (strconv_baseError)

-- NOT PRINTED: function 68 (strconv_bitSizeError)

-- NOT PRINTED: function 45 (strconv_toError)

-- NOT PRINTED: function 25 (strconv_Atoi_25)

-- NOT PRINTED: function 8 (num_Parse)

/-! ### merinoref01_Decimal: function 11 -/
mutual
def merinoref01_Decimal.j0 : Nat → Int → Int → Bool → Option (ByteArray × Int)
  | 0, _, _, _ => none
  | k + 1, x0, x1, x13 => if x13 = true then (some ((⟨#[]⟩ : ByteArray), 2)) else ((merinoref01_Digits.f k x0).bind fun t182 => (if x0 < 0 then (if 1 ≤ (t182.size : Int) then (merinoref01_Decimal.j1 k x1 (t182.extract 1 t182.size) (⟨#[45]⟩ : ByteArray)) else (none)) else (merinoref01_Decimal.j1 k x1 t182 (⟨#[]⟩ : ByteArray))))
def merinoref01_Decimal.j1 : Nat → Int → ByteArray → ByteArray → Option (ByteArray × Int)
  | 0, _, _, _ => none
  | k + 1, x1, x6, x7 => merinoref01_Decimal.l0 k x1 x6 x7
def merinoref01_Decimal.l0 : Nat → Int → ByteArray → ByteArray → Option (ByteArray × Int)
  | 0, _, _, _ => none
  | k + 1, x1, x6, x7 => if (x6.size : Int) ≤ x1 then (if 1 + x6.size ≤ 9223372036854775807 then (merinoref01_Decimal.l0 k x1 ((⟨#[48]⟩ : ByteArray) ++ x6) x7) else (none)) else (if x1 = 0 then (if x7.size + x6.size ≤ 9223372036854775807 then (some (x7 ++ x6, 0)) else (none)) else (if 0 ≤ (wrap64 ((x6.size : Int) - x1)) then (if (wrap64 ((x6.size : Int) - x1)) ≤ (x6.size : Int) then (if x7.size + (x6.extract 0 ((wrap64 ((x6.size : Int) - x1)) : Int).toNat).size ≤ 9223372036854775807 then (if (x7 ++ (x6.extract 0 ((wrap64 ((x6.size : Int) - x1)) : Int).toNat)).size + 1 ≤ 9223372036854775807 then (if ((x7 ++ (x6.extract 0 ((wrap64 ((x6.size : Int) - x1)) : Int).toNat)) ++ (⟨#[46]⟩ : ByteArray)).size + (x6.extract ((wrap64 ((x6.size : Int) - x1)) : Int).toNat x6.size).size ≤ 9223372036854775807 then (some (((x7 ++ (x6.extract 0 ((wrap64 ((x6.size : Int) - x1)) : Int).toNat)) ++ (⟨#[46]⟩ : ByteArray)) ++ (x6.extract ((wrap64 ((x6.size : Int) - x1)) : Int).toNat x6.size), 0)) else (none)) else (none)) else (none)) else (none)) else (none)))
end
def merinoref01_Decimal.f (k : Nat) (a0 : Int) (a1 : Int) : Option (ByteArray × Int) := if a1 < 0 then (merinoref01_Decimal.j0 k a0 a1 true) else (merinoref01_Decimal.j0 k a0 a1 (decide (a1 > 9)))
theorem merinoref01_Decimal.mono_l : ∀ k, (∀ y0 y1 y2, LeO (merinoref01_Decimal.j0 k y0 y1 y2) (merinoref01_Decimal.j0 (k + 1) y0 y1 y2)) ∧ (∀ y0 y1 y2, LeO (merinoref01_Decimal.j1 k y0 y1 y2) (merinoref01_Decimal.j1 (k + 1) y0 y1 y2)) ∧ (∀ y0 y1 y2, LeO (merinoref01_Decimal.l0 k y0 y1 y2) (merinoref01_Decimal.l0 (k + 1) y0 y1 y2))
  | 0 => ⟨fun _ _ _ r h => by simp [merinoref01_Decimal.j0] at h, fun _ _ _ r h => by simp [merinoref01_Decimal.j1] at h, fun _ _ _ r h => by simp [merinoref01_Decimal.l0] at h⟩
  | k + 1 => by
    obtain ⟨ih0, ih1, ih2⟩ := merinoref01_Decimal.mono_l k
    refine ⟨?_, ?_, ?_⟩
    · intro y0 y1 y2
      unfold merinoref01_Decimal.j0
      repeat' first
      | (with_reducible exact ih0 _ _ _)
      | (with_reducible exact ih1 _ _ _)
      | (with_reducible exact ih2 _ _ _)
      | (with_reducible exact merinoref01_Digits.mono _ _)
      | (with_reducible exact LeO.refl _)
      | (with_reducible exact LeO.none _)
      | (with_reducible refine LeO.ite ?_ ?_)
      | (with_reducible refine LeO.bind ?_ (fun _ => ?_))
      | exact ih0 _ _ _
      | exact ih1 _ _ _
      | exact ih2 _ _ _
      | exact merinoref01_Digits.mono _ _
      | exact LeO.none _
      | refine LeO.ite ?_ ?_
      | refine LeO.bind ?_ (fun _ => ?_)
    · intro y0 y1 y2
      unfold merinoref01_Decimal.j1
      repeat' first
      | (with_reducible exact ih0 _ _ _)
      | (with_reducible exact ih1 _ _ _)
      | (with_reducible exact ih2 _ _ _)
      | (with_reducible exact merinoref01_Digits.mono _ _)
      | (with_reducible exact LeO.refl _)
      | (with_reducible exact LeO.none _)
      | (with_reducible refine LeO.ite ?_ ?_)
      | (with_reducible refine LeO.bind ?_ (fun _ => ?_))
      | exact ih0 _ _ _
      | exact ih1 _ _ _
      | exact ih2 _ _ _
      | exact merinoref01_Digits.mono _ _
      | exact LeO.none _
      | refine LeO.ite ?_ ?_
      | refine LeO.bind ?_ (fun _ => ?_)
    · intro y0 y1 y2
      unfold merinoref01_Decimal.l0
      repeat' first
      | (with_reducible exact ih0 _ _ _)
      | (with_reducible exact ih1 _ _ _)
      | (with_reducible exact ih2 _ _ _)
      | (with_reducible exact merinoref01_Digits.mono _ _)
      | (with_reducible exact LeO.refl _)
      | (with_reducible exact LeO.none _)
      | (with_reducible refine LeO.ite ?_ ?_)
      | (with_reducible refine LeO.bind ?_ (fun _ => ?_))
      | exact ih0 _ _ _
      | exact ih1 _ _ _
      | exact ih2 _ _ _
      | exact merinoref01_Digits.mono _ _
      | exact LeO.none _
      | refine LeO.ite ?_ ?_
      | refine LeO.bind ?_ (fun _ => ?_)
theorem merinoref01_Decimal.mono : ∀ a0 a1 k, LeO (merinoref01_Decimal.f k a0 a1) (merinoref01_Decimal.f (k + 1) a0 a1) := by
  intro a0 a1 k
  obtain ⟨ih0, ih1, ih2⟩ := merinoref01_Decimal.mono_l k
  unfold merinoref01_Decimal.f
  repeat' first
      | (with_reducible exact ih0 _ _ _)
      | (with_reducible exact ih1 _ _ _)
      | (with_reducible exact ih2 _ _ _)
      | (with_reducible exact merinoref01_Digits.mono _ _)
      | (with_reducible exact LeO.refl _)
      | (with_reducible exact LeO.none _)
      | (with_reducible refine LeO.ite ?_ ?_)
      | (with_reducible refine LeO.bind ?_ (fun _ => ?_))
      | exact ih0 _ _ _
      | exact ih1 _ _ _
      | exact ih2 _ _ _
      | exact merinoref01_Digits.mono _ _
      | exact LeO.none _
      | refine LeO.ite ?_ ?_
      | refine LeO.bind ?_ (fun _ => ?_)
set_option maxHeartbeats 8000000 in
set_option maxRecDepth 100000 in
theorem merinoref01_Decimal.calls (k : Nat) (a0 : Int) (a1 : Int) (r1 : ByteArray) (r2 : Int) (w : World) (h : merinoref01_Decimal.f k a0 a1 = some (r1, r2)) :
    Calls Tryz.prog 11 #[.int .i64 a0, .int .i64 a1] w fun e w' => e = .returned (.tuple #[.string r1, .int .i64 r2]) ∧ Drawn0 w w' := by
  have H : (if a1 < 0 then (merinoref01_Decimal.j0 k a0 a1 true) else (merinoref01_Decimal.j0 k a0 a1 (decide (a1 > 9)))) = some (r1, r2) := h
  clear h
  have HC3 := Aside0.mk H
  clear H
  go_enter Tryz.func11, Tryz.ntmps11
  go_upto_region 1 with (fail)
  repeat (go_quiet (fail); go_upto_region 1 with (fail))
  go_cut [13] (fun v13 wc => ∃ (kq : Nat) (x13_2 : Bool), v13 = .bool x13_2 ∧ Aside0 (merinoref01_Decimal.j0 kq a0 a1 x13_2 = some (r1, r2)) ∧ Aside0 (kq ≤ k) ∧ Drawn0 w wc)
  case first =>
    have H := HC3.out
    clear HC3
    by_cases c4 : a1 < 0
    · rw [if_pos c4] at H
      have c4b0 : decide (a1 < 0) = true := decide_eq_true c4
      clear c4
      (first | rw [c4b0] | (simp only [i64_w, i32_w]; rw [c4b0]) | skip)
      have H' := Aside0.mk H
      clear H
      go_wp2
      repeat (go_quiet (fail); try go_wp2)
      go_meet
      case rel => exact ⟨_, (true), (by first | rfl | (simp; done) | (simp [*]; done)), H', ⟨by first | omega | exact Nat.le_refl _⟩, by repeat (first | exact Drawn0.refl _ | apply Drawn0.step)⟩
    · rw [if_neg c4] at H
      have c4b0 : decide (a1 < 0) = false := decide_eq_false c4
      clear c4
      (first | rw [c4b0] | (simp only [i64_w, i32_w]; rw [c4b0]) | skip)
      have H' := Aside0.mk H
      clear H
      go_wp2
      repeat (go_quiet (fail); try go_wp2)
      go_meet
      case rel => exact ⟨_, (decide (a1 > 9)), (by first | rfl | (simp; done) | (simp [*]; done)), H', ⟨by first | omega | exact Nat.le_refl _⟩, by repeat (first | exact Drawn0.refl _ | apply Drawn0.step)⟩
  case rest =>
    clear HC3
    try clear c1
    try clear p2
    try clear c4
    try clear c4b0
    obtain ⟨kq, x13_2, rfl, HA, HJ2, ⟨mc2, rfl⟩⟩ := hcut
    cases kq with
    | zero => exact absurd HA.out (by simp [merinoref01_Decimal.j0])
    | succ kj2 =>
      have H := HA.out
      clear HA
      simp only [merinoref01_Decimal.j0] at H
      by_cases c5 : x13_2 = true
      · subst c5
        have H1 : (some ((⟨#[]⟩ : ByteArray), 2)) = some (r1, r2) := by rw [if_pos rfl] at H; exact H
        clear H
        have H := H1
        clear H1
        simp only [Option.some.injEq, Prod.mk.injEq] at H
        obtain ⟨rfl, rfl⟩ := H
        go_wp2
        repeat (go_quiet (fail); try go_wp2)
        go_ret2
        exact ⟨by first | rfl | (simp; done) | (simp [*]; done), by repeat (first | exact Drawn0.refl _ | apply Drawn0.step)⟩
      · replace c5 := Bool.eq_false_iff.mpr c5
        subst c5
        have H1 : ((merinoref01_Digits.f kj2 a0).bind fun t182 => (if a0 < 0 then (if 1 ≤ (t182.size : Int) then (merinoref01_Decimal.j1 kj2 a1 (t182.extract 1 t182.size) (⟨#[45]⟩ : ByteArray)) else (none)) else (merinoref01_Decimal.j1 kj2 a1 t182 (⟨#[]⟩ : ByteArray)))) = some (r1, r2) := by rw [if_neg (show ¬ (false = true) by decide)] at H; exact H
        clear H
        have H := H1
        clear H1
        replace H := Option.bind_eq_some_iff.mp H
        obtain ⟨t182, A60, H⟩ := H
        replace H : (if a0 < 0 then (if 1 ≤ (t182.size : Int) then (merinoref01_Decimal.j1 kj2 a1 (t182.extract 1 t182.size) (⟨#[45]⟩ : ByteArray)) else (none)) else (merinoref01_Decimal.j1 kj2 a1 t182 (⟨#[]⟩ : ByteArray))) = some (r1, r2) := H
        have A6 := Aside0.mk A60
        clear A60
        have HC7 := Aside0.mk H
        clear H
        go_upto_if 17 with (first | (go_at_call 23; (with_reducible refine (merinoref01_Digits.calls kj2 a0 t182 _ A6.out).mono ?_); rintro e w' ⟨rfl, ⟨nd, rfl⟩⟩; (try first | exact ⟨rfl, _, World.drewN_drewN _ _ _⟩ | exact ⟨rfl, _, Eq.trans (World.drewN_drewN _ _ _) (congrArg (World.drewN _) (Nat.add_assoc _ _ _))⟩)))
        repeat (go_quiet (first | (go_at_call 23; (with_reducible refine (merinoref01_Digits.calls kj2 a0 t182 _ A6.out).mono ?_); rintro e w' ⟨rfl, ⟨nd, rfl⟩⟩; (try first | exact ⟨rfl, _, World.drewN_drewN _ _ _⟩ | exact ⟨rfl, _, Eq.trans (World.drewN_drewN _ _ _) (congrArg (World.drewN _) (Nat.add_assoc _ _ _))⟩))); go_upto_if 17 with (first | (go_at_call 23; (with_reducible refine (merinoref01_Digits.calls kj2 a0 t182 _ A6.out).mono ?_); rintro e w' ⟨rfl, ⟨nd, rfl⟩⟩; (try first | exact ⟨rfl, _, World.drewN_drewN _ _ _⟩ | exact ⟨rfl, _, Eq.trans (World.drewN_drewN _ _ _) (congrArg (World.drewN _) (Nat.add_assoc _ _ _))⟩))))
        (try simp only [Act.put, List.setIfInBounds_toArray, List.set_cons_zero, List.set_cons_succ])
        go_cut [6, 7] (fun v6 v7 wc => ∃ (kq : Nat) (x6_6 : ByteArray) (x7_6 : ByteArray), v6 = .string x6_6 ∧ v7 = .string x7_6 ∧ Aside0 (merinoref01_Decimal.j1 kq a1 x6_6 x7_6 = some (r1, r2)) ∧ Aside0 (kq ≤ kj2) ∧ Drawn0 w wc)
        case first =>
          have H := HC7.out
          clear HC7
          by_cases c8 : a0 < 0
          · rw [if_pos c8] at H
            have c8b0 : decide (a0 < 0) = true := decide_eq_true c8
            clear c8
            (first | rw [c8b0] | (simp only [i64_w, i32_w]; rw [c8b0]) | skip)
            by_cases c9 : 1 ≤ (t182.size : Int)
            · rw [if_pos c9] at H
              have c9b0 := eq_true c9
              have c9b1 : decide (1 ≤ (t182.size : Int)) = true := decide_eq_true c9
              clear c9
              have H' := Aside0.mk H
              clear H
              go_wp2
              repeat (go_quiet (fail); try go_wp2)
              go_meet
              case rel => exact ⟨_, (t182.extract 1 t182.size), ((⟨#[45]⟩ : ByteArray)), (by first | rfl | (simp; done) | (simp [*]; done)), (by first | rfl | (simp; done) | (simp [*]; done)), H', ⟨by have := HJ2.out; first | omega | exact Nat.le_refl _⟩, by repeat (first | exact Drawn0.refl _ | apply Drawn0.step)⟩
            · rw [if_neg c9] at H
              exact absurd H (by simp)
          · rw [if_neg c8] at H
            have c8b0 : decide (a0 < 0) = false := decide_eq_false c8
            clear c8
            (first | rw [c8b0] | (simp only [i64_w, i32_w]; rw [c8b0]) | skip)
            have H' := Aside0.mk H
            clear H
            go_wp2
            repeat (go_quiet (fail); try go_wp2)
            go_meet
            case rel => exact ⟨_, (t182), ((⟨#[]⟩ : ByteArray)), (by first | rfl | (simp; done) | (simp [*]; done)), (by first | rfl | (simp; done) | (simp [*]; done)), H', ⟨by have := HJ2.out; first | omega | exact Nat.le_refl _⟩, by repeat (first | exact Drawn0.refl _ | apply Drawn0.step)⟩
        case rest =>
          clear HC7
          try clear c1
          try clear c2
          try clear p2
          try clear c4
          try clear c4b0
          try clear c5
          try clear c8
          try clear c8b0
          try clear c9
          try clear c9b0
          try clear c9b1
          try clear p2
          obtain ⟨kq, x6_6, x7_6, rfl, rfl, HA, HJ6, ⟨mc6, rfl⟩⟩ := hcut
          cases kq with
          | zero => exact absurd HA.out (by simp [merinoref01_Decimal.j1])
          | succ kj6 =>
            have H := HA.out
            clear HA
            simp only [merinoref01_Decimal.j1] at H
            have H' := Aside0.mk H
            clear H
            go_wp2
            repeat (go_quiet (fail); try go_wp2)
            go_loopg [6] kj6 (fun kq v6 w' => ∃ (x6_3 : ByteArray), v6 = .string x6_3 ∧ Aside0 (merinoref01_Decimal.l0 kq a1 x6_3 x7_6 = some (r1, r2)) ∧ Aside0 (kq ≤ kj6) ∧ Drawn0 w w')
            case atStart => exact ⟨(x6_6), (by first | rfl | (simp; done) | (simp [*]; done)), H', ⟨Nat.le_refl _⟩, by repeat (first | exact Drawn0.refl _ | apply Drawn0.step)⟩
            case round =>
              clear H'
              try clear c1
              try clear c2
              try clear p2
              try clear c4
              try clear c4b0
              try clear c5
              try clear c6
              try clear c8
              try clear c8b0
              try clear c9
              try clear c9b0
              try clear c9b1
              try clear p2
              obtain ⟨x6_3, rfl, HA, HK3, ⟨m3, rfl⟩⟩ := hrel
              cases gk with
              | zero => exact absurd HA.out (by simp [merinoref01_Decimal.l0])
              | succ k3 =>
                have H := HA.out
                clear HA
                simp only [merinoref01_Decimal.l0] at H
                by_cases c10 : (x6_3.size : Int) ≤ a1
                · rw [if_pos c10] at H
                  have c10b0 : decide ((x6_3.size : Int) ≤ a1) = true := decide_eq_true c10
                  clear c10
                  by_cases c11 : 1 + x6_3.size ≤ 9223372036854775807
                  · rw [if_pos c11] at H
                    have c11b0 := eq_true c11
                    have c11b1 : decide (1 + x6_3.size ≤ 9223372036854775807) = true := decide_eq_true c11
                    try have c11b2 : (9223372036854775807 < 1 + x6_3.size) = False := eq_false (Nat.not_lt.2 c11)
                    have H' := Aside0.mk H
                    clear H
                    go_wp2
                    repeat (go_quiet (fail); try go_wp2)
                    go_roundg k3
                    case measure => have := HJ2.out; have := HJ6.out; have := HK3.out; omega
                    case rel => exact ⟨((⟨#[48]⟩ : ByteArray) ++ x6_3), (by first | rfl | (simp; done) | (simp [*]; done)), H', ⟨by have := HJ2.out; have := HJ6.out; have := HK3.out; omega⟩, by repeat (first | exact Drawn0.refl _ | apply Drawn0.step)⟩
                  · rw [if_neg c11] at H
                    exact absurd H (by simp)
                · rw [if_neg c10] at H
                  have c10b0 : decide ((x6_3.size : Int) ≤ a1) = false := decide_eq_false c10
                  clear c10
                  by_cases c12 : a1 = 0
                  · rw [if_pos c12] at H
                    have c12b0 : (a1 == 0) = true := beq_iff_eq.mpr c12
                    have c12b1 : (a1 != 0) = false := bne_eq_false_iff_eq.mpr c12
                    clear c12
                    by_cases c13 : x7_6.size + x6_3.size ≤ 9223372036854775807
                    · rw [if_pos c13] at H
                      have c13b0 := eq_true c13
                      have c13b1 : decide (x7_6.size + x6_3.size ≤ 9223372036854775807) = true := decide_eq_true c13
                      try have c13b2 : (9223372036854775807 < x7_6.size + x6_3.size) = False := eq_false (Nat.not_lt.2 c13)
                      simp only [Option.some.injEq, Prod.mk.injEq] at H
                      obtain ⟨rfl, rfl⟩ := H
                      go_wp2
                      repeat (go_quiet (fail); try go_wp2)
                      go_ret2
                      exact ⟨by first | rfl | (simp; done) | (simp [*]; done), by repeat (first | exact Drawn0.refl _ | apply Drawn0.step)⟩
                    · rw [if_neg c13] at H
                      exact absurd H (by simp)
                  · rw [if_neg c12] at H
                    have c12b0 : (a1 == 0) = false := beq_eq_false_iff_ne.mpr c12
                    have c12b1 : (a1 != 0) = true := bne_iff_ne.mpr c12
                    obtain ⟨ji14, hji14⟩ : ∃ j_ : Int, (wrap64 ((x6_3.size : Int) - a1)) = j_ := ⟨_, rfl⟩
                    replace H : (if 0 ≤ (ji14) then (if (ji14) ≤ (x6_3.size : Int) then (if x7_6.size + (x6_3.extract 0 ((ji14) : Int).toNat).size ≤ 9223372036854775807 then (if (x7_6 ++ (x6_3.extract 0 ((ji14) : Int).toNat)).size + 1 ≤ 9223372036854775807 then (if ((x7_6 ++ (x6_3.extract 0 ((ji14) : Int).toNat)) ++ (⟨#[46]⟩ : ByteArray)).size + (x6_3.extract ((ji14) : Int).toNat x6_3.size).size ≤ 9223372036854775807 then (some (((x7_6 ++ (x6_3.extract 0 ((ji14) : Int).toNat)) ++ (⟨#[46]⟩ : ByteArray)) ++ (x6_3.extract ((ji14) : Int).toNat x6_3.size), 0)) else (none)) else (none)) else (none)) else (none)) else (none)) = some (r1, r2) := by first | (rw [hji14] at H; exact H) | (simp only [hji14] at H ⊢; exact H)
                    have hji14w : (IntKind.i64.wrap ((x6_3.size : Int) - a1)) = ji14 := (i64_w _).trans hji14
                    by_cases c15 : 0 ≤ (ji14)
                    · rw [if_pos c15] at H
                      have c15b0 := eq_true c15
                      have c15b1 : decide (0 ≤ (ji14)) = true := decide_eq_true c15
                      clear c15
                      by_cases c16 : (ji14) ≤ (x6_3.size : Int)
                      · rw [if_pos c16] at H
                        have c16b0 := eq_true c16
                        have c16b1 : decide ((ji14) ≤ (x6_3.size : Int)) = true := decide_eq_true c16
                        clear c16
                        by_cases c17 : x7_6.size + (x6_3.extract 0 ((ji14) : Int).toNat).size ≤ 9223372036854775807
                        · rw [if_pos c17] at H
                          have c17b0 := eq_true c17
                          have c17b1 : decide (x7_6.size + (x6_3.extract 0 ((ji14) : Int).toNat).size ≤ 9223372036854775807) = true := decide_eq_true c17
                          try have c17b2 : (9223372036854775807 < x7_6.size + (x6_3.extract 0 ((ji14) : Int).toNat).size) = False := eq_false (Nat.not_lt.2 c17)
                          by_cases c18 : (x7_6 ++ (x6_3.extract 0 ((ji14) : Int).toNat)).size + 1 ≤ 9223372036854775807
                          · rw [if_pos c18] at H
                            have c18b0 := eq_true c18
                            have c18b1 : decide ((x7_6 ++ (x6_3.extract 0 ((ji14) : Int).toNat)).size + 1 ≤ 9223372036854775807) = true := decide_eq_true c18
                            try have c18b2 : (9223372036854775807 < (x7_6 ++ (x6_3.extract 0 ((ji14) : Int).toNat)).size + 1) = False := eq_false (Nat.not_lt.2 c18)
                            have c19b0 := eq_true (of_decide_eq_true (by first | (with_reducible assumption) | assumption) : 0 ≤ (ji14))
                            have c20b0 := eq_true (of_decide_eq_true (by first | (with_reducible assumption) | assumption) : (ji14) ≤ (x6_3.size : Int))
                            by_cases c21 : ((x7_6 ++ (x6_3.extract 0 ((ji14) : Int).toNat)) ++ (⟨#[46]⟩ : ByteArray)).size + (x6_3.extract ((ji14) : Int).toNat x6_3.size).size ≤ 9223372036854775807
                            · rw [if_pos c21] at H
                              have c21b0 := eq_true c21
                              have c21b1 : decide (((x7_6 ++ (x6_3.extract 0 ((ji14) : Int).toNat)) ++ (⟨#[46]⟩ : ByteArray)).size + (x6_3.extract ((ji14) : Int).toNat x6_3.size).size ≤ 9223372036854775807) = true := decide_eq_true c21
                              try have c21b2 : (9223372036854775807 < ((x7_6 ++ (x6_3.extract 0 ((ji14) : Int).toNat)) ++ (⟨#[46]⟩ : ByteArray)).size + (x6_3.extract ((ji14) : Int).toNat x6_3.size).size) = False := eq_false (Nat.not_lt.2 c21)
                              clear c17b0 c17b1 c17b2 c18b0 c18b1 c18b2 c21b0 c21b1 c21b2
                              obtain ⟨sA, hsA⟩ : ∃ z, x6_3.extract 0 ((ji14) : Int).toNat = z := ⟨_, rfl⟩
                              obtain ⟨sB, hsB⟩ : ∃ z, x6_3.extract ((ji14) : Int).toNat x6_3.size = z := ⟨_, rfl⟩
                              rw [hsA, hsB] at H c21
                              rw [hsA] at c17 c18
                              have d18 : x7_6.size + sA.size + 1 ≤ 9223372036854775807 := by rw [ByteArray.size_append] at c18; exact c18
                              have d21 : x7_6.size + sA.size + 1 + sB.size ≤ 9223372036854775807 := by rw [ByteArray.size_append, ByteArray.size_append] at c21; exact c21
                              clear c18 c21
                              simp only [Option.some.injEq, Prod.mk.injEq] at H
                              obtain ⟨rfl, rfl⟩ := H
                              go_wp2
                              go_quiet (fail)
                              go_wp2
                              go_ret2
                              exact ⟨by first | rfl | (simp; done) | (simp only [← hji14] <;> (first | rfl | simp)) | (simp [*]; done), by repeat (first | exact Drawn0.refl _ | apply Drawn0.step)⟩
                            · rw [if_neg c21] at H
                              exact absurd H (by simp)
                          · rw [if_neg c18] at H
                            exact absurd H (by simp)
                        · rw [if_neg c17] at H
                          exact absurd H (by simp)
                      · rw [if_neg c16] at H
                        exact absurd H (by simp)
                    · rw [if_neg c15] at H
                      exact absurd H (by simp)

/-! ### merinoref01_form: function 33 -/
mutual
def merinoref01_form.j0 : Nat → ByteArray → Int → Bool → Option (Bool)
  | 0, _, _, _ => none
  | k + 1, x0, x1, x5 => if x5 = true then (if 1 ≤ (x0.size : Int) then (merinoref01_form.j1 k (x0.extract 1 x0.size) x1 x5) else (none)) else (merinoref01_form.j1 k x0 x1 x5)
def merinoref01_form.j1 : Nat → ByteArray → Int → Bool → Option (Bool)
  | 0, _, _, _ => none
  | k + 1, x0, x1, x5 => if x1 > 0 then (merinoref01_form.j2 k x0 x1 x5 (wrap64 ((wrap64 ((x0.size : Int) - x1)) - 1))) else (merinoref01_form.j2 k x0 x1 x5 (x0.size : Int))
def merinoref01_form.j2 : Nat → ByteArray → Int → Bool → Int → Option (Bool)
  | 0, _, _, _, _ => none
  | k + 1, x0, x1, x5, x6 => if x6 < 1 then (merinoref01_form.j3 k x0 x5 x6 true) else (if x6 > 1 then (if 0 < (x0.size : Int) then (if (bt x0 0) = 48 then (merinoref01_form.j3 k x0 x5 x6 true) else (if x1 > 0 then (if 0 ≤ x6 then (if x6 < (x0.size : Int) then (merinoref01_form.j3 k x0 x5 x6 ((bt x0 x6) != 46)) else (none)) else (none)) else (merinoref01_form.j3 k x0 x5 x6 false))) else (none)) else (if x1 > 0 then (if 0 ≤ x6 then (if x6 < (x0.size : Int) then (merinoref01_form.j3 k x0 x5 x6 ((bt x0 x6) != 46)) else (none)) else (none)) else (merinoref01_form.j3 k x0 x5 x6 false)))
def merinoref01_form.j3 : Nat → ByteArray → Bool → Int → Bool → Option (Bool)
  | 0, _, _, _, _ => none
  | k + 1, x0, x5, x6, x49 => if x49 = true then (some false) else (merinoref01_form.l0 k x0 x5 x6 true 0)
def merinoref01_form.l0 : Nat → ByteArray → Bool → Int → Bool → Int → Option (Bool)
  | 0, _, _, _, _, _ => none
  | k + 1, x0, x5, x6, x7, x8 => if x8 < (x0.size : Int) then (if x8 = x6 then (merinoref01_form.l0 k x0 x5 x6 x7 (wrap64 (x8 + 1))) else (if 0 ≤ x8 then (if (bt x0 x8) < 48 then (some false) else (if (bt x0 x8) > 57 then (some false) else (if x7 = true then (merinoref01_form.l0 k x0 x5 x6 ((bt x0 x8) == 48) (wrap64 (x8 + 1))) else (merinoref01_form.l0 k x0 x5 x6 false (wrap64 (x8 + 1)))))) else (none))) else (if x5 = true then (some (!x7)) else (some true))
end
def merinoref01_form.f (k : Nat) (a0 : ByteArray) (a1 : Int) : Option (Bool) := if (a0.size : Int) > 0 then (if 0 < (a0.size : Int) then (merinoref01_form.j0 k a0 a1 ((bt a0 0) == 45)) else (none)) else (merinoref01_form.j0 k a0 a1 false)
theorem merinoref01_form.mono_l : ∀ k, (∀ y0 y1 y2, LeO (merinoref01_form.j0 k y0 y1 y2) (merinoref01_form.j0 (k + 1) y0 y1 y2)) ∧ (∀ y0 y1 y2, LeO (merinoref01_form.j1 k y0 y1 y2) (merinoref01_form.j1 (k + 1) y0 y1 y2)) ∧ (∀ y0 y1 y2 y3, LeO (merinoref01_form.j2 k y0 y1 y2 y3) (merinoref01_form.j2 (k + 1) y0 y1 y2 y3)) ∧ (∀ y0 y1 y2 y3, LeO (merinoref01_form.j3 k y0 y1 y2 y3) (merinoref01_form.j3 (k + 1) y0 y1 y2 y3)) ∧ (∀ y0 y1 y2 y3 y4, LeO (merinoref01_form.l0 k y0 y1 y2 y3 y4) (merinoref01_form.l0 (k + 1) y0 y1 y2 y3 y4))
  | 0 => ⟨fun _ _ _ r h => by simp [merinoref01_form.j0] at h, fun _ _ _ r h => by simp [merinoref01_form.j1] at h, fun _ _ _ _ r h => by simp [merinoref01_form.j2] at h, fun _ _ _ _ r h => by simp [merinoref01_form.j3] at h, fun _ _ _ _ _ r h => by simp [merinoref01_form.l0] at h⟩
  | k + 1 => by
    obtain ⟨ih0, ih1, ih2, ih3, ih4⟩ := merinoref01_form.mono_l k
    refine ⟨?_, ?_, ?_, ?_, ?_⟩
    · intro y0 y1 y2
      unfold merinoref01_form.j0
      repeat' first
      | (with_reducible exact ih0 _ _ _)
      | (with_reducible exact ih1 _ _ _)
      | (with_reducible exact ih2 _ _ _ _)
      | (with_reducible exact ih3 _ _ _ _)
      | (with_reducible exact ih4 _ _ _ _ _)
      | (with_reducible exact LeO.refl _)
      | (with_reducible exact LeO.none _)
      | (with_reducible refine LeO.ite ?_ ?_)
      | (with_reducible refine LeO.bind ?_ (fun _ => ?_))
      | exact ih0 _ _ _
      | exact ih1 _ _ _
      | exact ih2 _ _ _ _
      | exact ih3 _ _ _ _
      | exact ih4 _ _ _ _ _
      | exact LeO.none _
      | refine LeO.ite ?_ ?_
      | refine LeO.bind ?_ (fun _ => ?_)
    · intro y0 y1 y2
      unfold merinoref01_form.j1
      repeat' first
      | (with_reducible exact ih0 _ _ _)
      | (with_reducible exact ih1 _ _ _)
      | (with_reducible exact ih2 _ _ _ _)
      | (with_reducible exact ih3 _ _ _ _)
      | (with_reducible exact ih4 _ _ _ _ _)
      | (with_reducible exact LeO.refl _)
      | (with_reducible exact LeO.none _)
      | (with_reducible refine LeO.ite ?_ ?_)
      | (with_reducible refine LeO.bind ?_ (fun _ => ?_))
      | exact ih0 _ _ _
      | exact ih1 _ _ _
      | exact ih2 _ _ _ _
      | exact ih3 _ _ _ _
      | exact ih4 _ _ _ _ _
      | exact LeO.none _
      | refine LeO.ite ?_ ?_
      | refine LeO.bind ?_ (fun _ => ?_)
    · intro y0 y1 y2 y3
      unfold merinoref01_form.j2
      repeat' first
      | (with_reducible exact ih0 _ _ _)
      | (with_reducible exact ih1 _ _ _)
      | (with_reducible exact ih2 _ _ _ _)
      | (with_reducible exact ih3 _ _ _ _)
      | (with_reducible exact ih4 _ _ _ _ _)
      | (with_reducible exact LeO.refl _)
      | (with_reducible exact LeO.none _)
      | (with_reducible refine LeO.ite ?_ ?_)
      | (with_reducible refine LeO.bind ?_ (fun _ => ?_))
      | exact ih0 _ _ _
      | exact ih1 _ _ _
      | exact ih2 _ _ _ _
      | exact ih3 _ _ _ _
      | exact ih4 _ _ _ _ _
      | exact LeO.none _
      | refine LeO.ite ?_ ?_
      | refine LeO.bind ?_ (fun _ => ?_)
    · intro y0 y1 y2 y3
      unfold merinoref01_form.j3
      repeat' first
      | (with_reducible exact ih0 _ _ _)
      | (with_reducible exact ih1 _ _ _)
      | (with_reducible exact ih2 _ _ _ _)
      | (with_reducible exact ih3 _ _ _ _)
      | (with_reducible exact ih4 _ _ _ _ _)
      | (with_reducible exact LeO.refl _)
      | (with_reducible exact LeO.none _)
      | (with_reducible refine LeO.ite ?_ ?_)
      | (with_reducible refine LeO.bind ?_ (fun _ => ?_))
      | exact ih0 _ _ _
      | exact ih1 _ _ _
      | exact ih2 _ _ _ _
      | exact ih3 _ _ _ _
      | exact ih4 _ _ _ _ _
      | exact LeO.none _
      | refine LeO.ite ?_ ?_
      | refine LeO.bind ?_ (fun _ => ?_)
    · intro y0 y1 y2 y3 y4
      unfold merinoref01_form.l0
      repeat' first
      | (with_reducible exact ih0 _ _ _)
      | (with_reducible exact ih1 _ _ _)
      | (with_reducible exact ih2 _ _ _ _)
      | (with_reducible exact ih3 _ _ _ _)
      | (with_reducible exact ih4 _ _ _ _ _)
      | (with_reducible exact LeO.refl _)
      | (with_reducible exact LeO.none _)
      | (with_reducible refine LeO.ite ?_ ?_)
      | (with_reducible refine LeO.bind ?_ (fun _ => ?_))
      | exact ih0 _ _ _
      | exact ih1 _ _ _
      | exact ih2 _ _ _ _
      | exact ih3 _ _ _ _
      | exact ih4 _ _ _ _ _
      | exact LeO.none _
      | refine LeO.ite ?_ ?_
      | refine LeO.bind ?_ (fun _ => ?_)
theorem merinoref01_form.mono : ∀ a0 a1 k, LeO (merinoref01_form.f k a0 a1) (merinoref01_form.f (k + 1) a0 a1) := by
  intro a0 a1 k
  obtain ⟨ih0, ih1, ih2, ih3, ih4⟩ := merinoref01_form.mono_l k
  unfold merinoref01_form.f
  repeat' first
      | (with_reducible exact ih0 _ _ _)
      | (with_reducible exact ih1 _ _ _)
      | (with_reducible exact ih2 _ _ _ _)
      | (with_reducible exact ih3 _ _ _ _)
      | (with_reducible exact ih4 _ _ _ _ _)
      | (with_reducible exact LeO.refl _)
      | (with_reducible exact LeO.none _)
      | (with_reducible refine LeO.ite ?_ ?_)
      | (with_reducible refine LeO.bind ?_ (fun _ => ?_))
      | exact ih0 _ _ _
      | exact ih1 _ _ _
      | exact ih2 _ _ _ _
      | exact ih3 _ _ _ _
      | exact ih4 _ _ _ _ _
      | exact LeO.none _
      | refine LeO.ite ?_ ?_
      | refine LeO.bind ?_ (fun _ => ?_)
set_option maxHeartbeats 8000000 in
set_option maxRecDepth 100000 in
theorem merinoref01_form.calls (k : Nat) (a0 : ByteArray) (a1 : Int) (r : Bool) (w : World) (h : merinoref01_form.f k a0 a1 = some r) :
    Calls Tryz.prog 33 #[.string a0, .int .i64 a1] w fun e w' => e = .returned (.bool r) ∧ Drawn0 w w' := by
  have H : (if (a0.size : Int) > 0 then (if 0 < (a0.size : Int) then (merinoref01_form.j0 k a0 a1 ((bt a0 0) == 45)) else (none)) else (merinoref01_form.j0 k a0 a1 false)) = some r := h
  clear h
  have HC3 := Aside0.mk H
  clear H
  go_enter Tryz.func33, Tryz.ntmps33
  go_upto_region 1 with (fail)
  go_cut [5] (fun v5 wc => ∃ (kq : Nat) (x5_2 : Bool), v5 = .bool x5_2 ∧ Aside0 (merinoref01_form.j0 kq a0 a1 x5_2 = some r) ∧ Aside0 (kq ≤ k) ∧ Drawn0 w wc)
  case first =>
    have H := HC3.out
    clear HC3
    by_cases c4 : (a0.size : Int) > 0
    · rw [if_pos c4] at H
      have c4b0 : decide (0 < (a0.size : Int)) = true := decide_eq_true c4
      have c4b1 : decide (0 < a0.size) = true := decide_eq_true (by omega)
      clear c4
      (first | rw [c4b0] | (simp only [i64_w, i32_w]; rw [c4b0]) | skip)
      by_cases c5 : 0 < (a0.size : Int)
      · rw [if_pos c5] at H
        have c5b0 : decide (0 < (a0.size : Int)) = true := decide_eq_true c5
        have c5b1 : decide (0 < a0.size) = true := decide_eq_true (by omega)
        clear c5
        have H' := Aside0.mk H
        clear H
        have p6 : 0 ≤ (0 : Int) := (by omega)
        have q6 : 0 < a0.size := (by have : (0 : Int) < (a0.size : Int) := of_decide_eq_true (by first | (with_reducible assumption) | assumption); omega)
        have hx6 : ∀ h : 0 < a0.size, ((a0[0]'h).toNat : Int) = bt a0 0 := bt_at a0 0
        clear p6
        have qi6 : (0 < (a0.size : Int)) = True := eq_true (of_decide_eq_true (by first | (with_reducible assumption) | assumption))
        replace q6 := eq_true q6
        go_wp2
        go_meet
        case rel => exact ⟨_, (((bt a0 0) == 45)), (by first | rfl | (simp; done) | (simp [*]; done)), H', ⟨by first | omega | exact Nat.le_refl _⟩, by repeat (first | exact Drawn0.refl _ | apply Drawn0.step)⟩
      · rw [if_neg c5] at H
        exact absurd H (by simp)
    · rw [if_neg c4] at H
      have c4b0 : decide (0 < (a0.size : Int)) = false := decide_eq_false c4
      have c4b1 : decide (0 < a0.size) = false := decide_eq_false (by omega)
      clear c4
      (first | rw [c4b0] | (simp only [i64_w, i32_w]; rw [c4b0]) | skip)
      have H' := Aside0.mk H
      clear H
      go_wp2
      go_meet
      case rel => exact ⟨_, (false), (by first | rfl | (simp; done) | (simp [*]; done)), H', ⟨by first | omega | exact Nat.le_refl _⟩, by repeat (first | exact Drawn0.refl _ | apply Drawn0.step)⟩
  case rest =>
    clear HC3
    try clear p2
    try clear c3
    try clear c4
    try clear c4b0
    try clear c4b1
    try clear c5
    try clear c5b0
    try clear c5b1
    try clear p6
    try clear q6
    try clear hx6
    try clear qi6
    try clear p6
    try clear q6
    obtain ⟨kq, x5_2, rfl, HA, HJ2, ⟨mc2, rfl⟩⟩ := hcut
    cases kq with
    | zero => exact absurd HA.out (by simp [merinoref01_form.j0])
    | succ kj2 =>
      have H := HA.out
      clear HA
      simp only [merinoref01_form.j0] at H
      have HC7 := Aside0.mk H
      clear H
      go_upto_if 17 with (fail)
      go_cut [0] (fun v0 wc => ∃ (kq : Nat) (x0_6 : ByteArray), v0 = .string x0_6 ∧ Aside0 (merinoref01_form.j1 kq x0_6 a1 x5_2 = some r) ∧ Aside0 (kq ≤ kj2) ∧ Drawn0 w wc)
      case first =>
        have H := HC7.out
        clear HC7
        by_cases c8 : x5_2 = true
        · subst c8
          have H1 : (if 1 ≤ (a0.size : Int) then (merinoref01_form.j1 kj2 (a0.extract 1 a0.size) a1 true) else (none)) = some r := by rw [if_pos rfl] at H; exact H
          clear H
          have H := H1
          clear H1
          by_cases c9 : 1 ≤ (a0.size : Int)
          · rw [if_pos c9] at H
            have c9b0 := eq_true c9
            have c9b1 : decide (1 ≤ (a0.size : Int)) = true := decide_eq_true c9
            clear c9
            have H' := Aside0.mk H
            clear H
            go_wp2
            go_meet
            case rel => exact ⟨_, (a0.extract 1 a0.size), (by first | rfl | (simp; done) | (simp [*]; done)), H', ⟨by have := HJ2.out; first | omega | exact Nat.le_refl _⟩, by repeat (first | exact Drawn0.refl _ | apply Drawn0.step)⟩
          · rw [if_neg c9] at H
            exact absurd H (by simp)
        · replace c8 := Bool.eq_false_iff.mpr c8
          subst c8
          have H1 : (merinoref01_form.j1 kj2 a0 a1 false) = some r := by rw [if_neg (show ¬ (false = true) by decide)] at H; exact H
          clear H
          have H := H1
          clear H1
          have H' := Aside0.mk H
          clear H
          go_wp2
          go_meet
          case rel => exact ⟨_, (a0), (by first | rfl | (simp; done) | (simp [*]; done)), H', ⟨by have := HJ2.out; first | omega | exact Nat.le_refl _⟩, by repeat (first | exact Drawn0.refl _ | apply Drawn0.step)⟩
      case rest =>
        clear HC7
        try clear c2
        try clear p2
        try clear c3
        try clear c4
        try clear c4b0
        try clear c4b1
        try clear c5
        try clear c5b0
        try clear c5b1
        try clear p6
        try clear q6
        try clear hx6
        try clear qi6
        try clear c8
        try clear c9
        try clear c9b0
        try clear c9b1
        try clear p2
        try clear p6
        try clear q6
        obtain ⟨kq, x0_6, rfl, HA, HJ6, ⟨mc6, rfl⟩⟩ := hcut
        cases kq with
        | zero => exact absurd HA.out (by simp [merinoref01_form.j1])
        | succ kj6 =>
          have H := HA.out
          clear HA
          simp only [merinoref01_form.j1] at H
          have HC10 := Aside0.mk H
          clear H
          go_upto_if 23 with (fail)
          go_cut [6] (fun v6 wc => ∃ (kq : Nat) (x6_9 : Int), v6 = .int .i64 x6_9 ∧ Aside0 (merinoref01_form.j2 kq x0_6 a1 x5_2 x6_9 = some r) ∧ Aside0 (kq ≤ kj6) ∧ Drawn0 w wc)
          case first =>
            have H := HC10.out
            clear HC10
            by_cases c11 : a1 > 0
            · rw [if_pos c11] at H
              have c11b0 : decide (0 < a1) = true := decide_eq_true c11
              clear c11
              (first | rw [c11b0] | (simp only [i64_w, i32_w]; rw [c11b0]) | skip)
              have H' := Aside0.mk H
              clear H
              go_wp2
              go_meet
              case rel => exact ⟨_, (wrap64 ((wrap64 ((x0_6.size : Int) - a1)) - 1)), (by first | rfl | (simp; done) | (simp [*]; done)), H', ⟨by have := HJ2.out; have := HJ6.out; first | omega | exact Nat.le_refl _⟩, by repeat (first | exact Drawn0.refl _ | apply Drawn0.step)⟩
            · rw [if_neg c11] at H
              have c11b0 : decide (0 < a1) = false := decide_eq_false c11
              clear c11
              (first | rw [c11b0] | (simp only [i64_w, i32_w]; rw [c11b0]) | skip)
              have H' := Aside0.mk H
              clear H
              go_wp2
              go_meet
              case rel => exact ⟨_, ((x0_6.size : Int)), (by first | rfl | (simp; done) | (simp [*]; done)), H', ⟨by have := HJ2.out; have := HJ6.out; first | omega | exact Nat.le_refl _⟩, by repeat (first | exact Drawn0.refl _ | apply Drawn0.step)⟩
          case rest =>
            clear HC10
            try clear c1
            try clear c2
            try clear p2
            try clear c3
            try clear c4
            try clear c4b0
            try clear c4b1
            try clear c5
            try clear c5b0
            try clear c5b1
            try clear c6
            try clear p6
            try clear q6
            try clear hx6
            try clear qi6
            try clear c8
            try clear c9
            try clear c9b0
            try clear c9b1
            try clear c11
            try clear c11b0
            try clear p2
            try clear p6
            try clear q6
            obtain ⟨kq, x6_9, rfl, HA, HJ9, ⟨mc9, rfl⟩⟩ := hcut
            cases kq with
            | zero => exact absurd HA.out (by simp [merinoref01_form.j2])
            | succ kj9 =>
              have H := HA.out
              clear HA
              simp only [merinoref01_form.j2] at H
              have HC12 := Aside0.mk H
              clear H
              go_upto_region 7 with (fail)
              go_cut [49] (fun v49 wc => ∃ (kq : Nat) (x49_11 : Bool), v49 = .bool x49_11 ∧ Aside0 (merinoref01_form.j3 kq x0_6 x5_2 x6_9 x49_11 = some r) ∧ Aside0 (kq ≤ kj9) ∧ Drawn0 w wc)
              case first =>
                have H := HC12.out
                clear HC12
                by_cases c13 : x6_9 < 1
                · rw [if_pos c13] at H
                  have c13b0 : decide (x6_9 < 1) = true := decide_eq_true c13
                  clear c13
                  (first | rw [c13b0] | (simp only [i64_w, i32_w]; rw [c13b0]) | skip)
                  have H' := Aside0.mk H
                  clear H
                  go_wp2
                  go_meet
                  case rel => exact ⟨_, (true), (by first | rfl | (simp; done) | (simp [*]; done)), H', ⟨by have := HJ2.out; have := HJ6.out; have := HJ9.out; first | omega | exact Nat.le_refl _⟩, by repeat (first | exact Drawn0.refl _ | apply Drawn0.step)⟩
                · rw [if_neg c13] at H
                  have c13b0 : decide (x6_9 < 1) = false := decide_eq_false c13
                  clear c13
                  (first | rw [c13b0] | (simp only [i64_w, i32_w]; rw [c13b0]) | skip)
                  by_cases c14 : x6_9 > 1
                  · rw [if_pos c14] at H
                    have c14b0 : decide (1 < x6_9) = true := decide_eq_true c14
                    clear c14
                    by_cases c15 : 0 < (x0_6.size : Int)
                    · rw [if_pos c15] at H
                      have c15b0 : decide (0 < (x0_6.size : Int)) = true := decide_eq_true c15
                      have c15b1 : decide (0 < x0_6.size) = true := decide_eq_true (by omega)
                      clear c15
                      by_cases c17 : (bt x0_6 0) = 48
                      · rw [if_pos c17] at H
                        have c17b0 : ((bt x0_6 0) == 48) = true := beq_iff_eq.mpr c17
                        have c17b1 : ((bt x0_6 0) != 48) = false := bne_eq_false_iff_eq.mpr c17
                        clear c17
                        have H' := Aside0.mk H
                        clear H
                        have p16 : 0 ≤ (0 : Int) := (by omega)
                        have q16 : 0 < x0_6.size := (by have : (0 : Int) < (x0_6.size : Int) := of_decide_eq_true (by first | (with_reducible assumption) | assumption); omega)
                        have hx16 : ∀ h : 0 < x0_6.size, ((x0_6[0]'h).toNat : Int) = bt x0_6 0 := bt_at x0_6 0
                        clear p16
                        have qi16 : (0 < (x0_6.size : Int)) = True := eq_true (of_decide_eq_true (by first | (with_reducible assumption) | assumption))
                        replace q16 := eq_true q16
                        go_wp2
                        go_meet
                        case rel => exact ⟨_, (true), (by first | rfl | (simp; done) | (simp [*]; done)), H', ⟨by have := HJ2.out; have := HJ6.out; have := HJ9.out; first | omega | exact Nat.le_refl _⟩, by repeat (first | exact Drawn0.refl _ | apply Drawn0.step)⟩
                      · rw [if_neg c17] at H
                        have c17b0 : ((bt x0_6 0) == 48) = false := beq_eq_false_iff_ne.mpr c17
                        have c17b1 : ((bt x0_6 0) != 48) = true := bne_iff_ne.mpr c17
                        by_cases c18 : a1 > 0
                        · rw [if_pos c18] at H
                          have c18b0 : decide (0 < a1) = true := decide_eq_true c18
                          clear c18
                          by_cases c19 : 0 ≤ x6_9
                          · rw [if_pos c19] at H
                            have c19b0 : decide (0 ≤ x6_9) = true := decide_eq_true c19
                            clear c19
                            by_cases c20 : x6_9 < (x0_6.size : Int)
                            · rw [if_pos c20] at H
                              have c20b0 : decide (x6_9 < (x0_6.size : Int)) = true := decide_eq_true c20
                              clear c20
                              have H' := Aside0.mk H
                              clear H
                              have p16 : 0 ≤ (0 : Int) := (by omega)
                              have q16 : 0 < x0_6.size := (by have : (0 : Int) < (x0_6.size : Int) := of_decide_eq_true (by first | (with_reducible assumption) | assumption); omega)
                              have hx16 : ∀ h : 0 < x0_6.size, ((x0_6[0]'h).toNat : Int) = bt x0_6 0 := bt_at x0_6 0
                              clear p16
                              have qi16 : (0 < (x0_6.size : Int)) = True := eq_true (of_decide_eq_true (by first | (with_reducible assumption) | assumption))
                              replace q16 := eq_true q16
                              have p21 : 0 ≤ (x6_9 : Int) := of_decide_eq_true (by first | (with_reducible assumption) | assumption)
                              have q21 : x6_9 < (x0_6.size : Int) := of_decide_eq_true (by first | (with_reducible assumption) | assumption)
                              have hx21 := bt_at x0_6 x6_9
                              replace p21 := eq_true p21
                              replace q21 := eq_true q21
                              go_wp2
                              go_meet
                              case rel => exact ⟨_, (((bt x0_6 x6_9) != 46)), (by first | rfl | (simp; done) | (simp [*]; done)), H', ⟨by have := HJ2.out; have := HJ6.out; have := HJ9.out; first | omega | exact Nat.le_refl _⟩, by repeat (first | exact Drawn0.refl _ | apply Drawn0.step)⟩
                            · rw [if_neg c20] at H
                              exact absurd H (by simp)
                          · rw [if_neg c19] at H
                            exact absurd H (by simp)
                        · rw [if_neg c18] at H
                          have c18b0 : decide (0 < a1) = false := decide_eq_false c18
                          clear c18
                          have H' := Aside0.mk H
                          clear H
                          have p16 : 0 ≤ (0 : Int) := (by omega)
                          have q16 : 0 < x0_6.size := (by have : (0 : Int) < (x0_6.size : Int) := of_decide_eq_true (by first | (with_reducible assumption) | assumption); omega)
                          have hx16 : ∀ h : 0 < x0_6.size, ((x0_6[0]'h).toNat : Int) = bt x0_6 0 := bt_at x0_6 0
                          clear p16
                          have qi16 : (0 < (x0_6.size : Int)) = True := eq_true (of_decide_eq_true (by first | (with_reducible assumption) | assumption))
                          replace q16 := eq_true q16
                          go_wp2
                          go_meet
                          case rel => exact ⟨_, (false), (by first | rfl | (simp; done) | (simp [*]; done)), H', ⟨by have := HJ2.out; have := HJ6.out; have := HJ9.out; first | omega | exact Nat.le_refl _⟩, by repeat (first | exact Drawn0.refl _ | apply Drawn0.step)⟩
                    · rw [if_neg c15] at H
                      exact absurd H (by simp)
                  · rw [if_neg c14] at H
                    have c14b0 : decide (1 < x6_9) = false := decide_eq_false c14
                    clear c14
                    by_cases c22 : a1 > 0
                    · rw [if_pos c22] at H
                      have c22b0 : decide (0 < a1) = true := decide_eq_true c22
                      clear c22
                      by_cases c23 : 0 ≤ x6_9
                      · rw [if_pos c23] at H
                        have c23b0 : decide (0 ≤ x6_9) = true := decide_eq_true c23
                        clear c23
                        by_cases c24 : x6_9 < (x0_6.size : Int)
                        · rw [if_pos c24] at H
                          have c24b0 : decide (x6_9 < (x0_6.size : Int)) = true := decide_eq_true c24
                          clear c24
                          have H' := Aside0.mk H
                          clear H
                          have p25 : 0 ≤ (x6_9 : Int) := of_decide_eq_true (by first | (with_reducible assumption) | assumption)
                          have q25 : x6_9 < (x0_6.size : Int) := of_decide_eq_true (by first | (with_reducible assumption) | assumption)
                          have hx25 := bt_at x0_6 x6_9
                          replace p25 := eq_true p25
                          replace q25 := eq_true q25
                          go_wp2
                          go_meet
                          case rel => exact ⟨_, (((bt x0_6 x6_9) != 46)), (by first | rfl | (simp; done) | (simp [*]; done)), H', ⟨by have := HJ2.out; have := HJ6.out; have := HJ9.out; first | omega | exact Nat.le_refl _⟩, by repeat (first | exact Drawn0.refl _ | apply Drawn0.step)⟩
                        · rw [if_neg c24] at H
                          exact absurd H (by simp)
                      · rw [if_neg c23] at H
                        exact absurd H (by simp)
                    · rw [if_neg c22] at H
                      have c22b0 : decide (0 < a1) = false := decide_eq_false c22
                      clear c22
                      have H' := Aside0.mk H
                      clear H
                      go_wp2
                      go_meet
                      case rel => exact ⟨_, (false), (by first | rfl | (simp; done) | (simp [*]; done)), H', ⟨by have := HJ2.out; have := HJ6.out; have := HJ9.out; first | omega | exact Nat.le_refl _⟩, by repeat (first | exact Drawn0.refl _ | apply Drawn0.step)⟩
              case rest =>
                clear HC12
                try clear c1
                try clear p1
                try clear q1
                try clear hx1
                try clear qi1
                try clear c2
                try clear p2
                try clear q2
                try clear hx2
                try clear c3
                try clear c4
                try clear c4b0
                try clear c4b1
                try clear c5
                try clear c5b0
                try clear c5b1
                try clear c6
                try clear p6
                try clear q6
                try clear hx6
                try clear qi6
                try clear c8
                try clear c9
                try clear c9b0
                try clear c9b1
                try clear c11
                try clear c11b0
                try clear c13
                try clear c13b0
                try clear c14
                try clear c14b0
                try clear c15
                try clear c15b0
                try clear c15b1
                try clear p16
                try clear q16
                try clear hx16
                try clear qi16
                try clear c17
                try clear c17b0
                try clear c17b1
                try clear c18
                try clear c18b0
                try clear c19
                try clear c19b0
                try clear c20
                try clear c20b0
                try clear p21
                try clear q21
                try clear hx21
                try clear c22
                try clear c22b0
                try clear c23
                try clear c23b0
                try clear c24
                try clear c24b0
                try clear p25
                try clear q25
                try clear hx25
                try clear p16
                try clear p2
                try clear p21
                try clear p25
                try clear p6
                try clear q16
                try clear q21
                try clear q25
                try clear q6
                obtain ⟨kq, x49_11, rfl, HA, HJ11, ⟨mc11, rfl⟩⟩ := hcut
                cases kq with
                | zero => exact absurd HA.out (by simp [merinoref01_form.j3])
                | succ kj11 =>
                  have H := HA.out
                  clear HA
                  simp only [merinoref01_form.j3] at H
                  by_cases c26 : x49_11 = true
                  · subst c26
                    have H1 : (some false) = some r := by rw [if_pos rfl] at H; exact H
                    clear H
                    have H := H1
                    clear H1
                    obtain rfl := Option.some.inj H
                    go_wp2
                    go_ret
                    exact ⟨by first | rfl | (simp; done) | (simp [*]; done), by repeat (first | exact Drawn0.refl _ | apply Drawn0.step)⟩
                  · replace c26 := Bool.eq_false_iff.mpr c26
                    subst c26
                    have H1 : (merinoref01_form.l0 kj11 x0_6 x5_2 x6_9 true 0) = some r := by rw [if_neg (show ¬ (false = true) by decide)] at H; exact H
                    clear H
                    have H := H1
                    clear H1
                    have H' := Aside0.mk H
                    clear H
                    go_wp2
                    go_loopg [7, 8] kj11 (fun kq v7 v8 w' => ∃ (x7_5 : Bool) (x8_5 : Int), v7 = .bool x7_5 ∧ v8 = .int .i64 x8_5 ∧ Aside0 (merinoref01_form.l0 kq x0_6 x5_2 x6_9 x7_5 x8_5 = some r) ∧ Aside0 (kq ≤ kj11) ∧ Drawn0 w w')
                    case atStart => exact ⟨(true), (0), (by first | rfl | (simp; done) | (simp [*]; done)), (by first | rfl | (simp; done) | (simp [*]; done)), H', ⟨Nat.le_refl _⟩, by repeat (first | exact Drawn0.refl _ | apply Drawn0.step)⟩
                    case round =>
                      clear H'
                      try clear c1
                      try clear p1
                      try clear q1
                      try clear hx1
                      try clear qi1
                      try clear c2
                      try clear p2
                      try clear q2
                      try clear hx2
                      try clear c3
                      try clear c4
                      try clear c4b0
                      try clear c4b1
                      try clear c5
                      try clear c5b0
                      try clear c5b1
                      try clear c6
                      try clear p6
                      try clear q6
                      try clear hx6
                      try clear qi6
                      try clear c8
                      try clear c9
                      try clear c9b0
                      try clear c9b1
                      try clear c11
                      try clear c11b0
                      try clear c13
                      try clear c13b0
                      try clear c14
                      try clear c14b0
                      try clear c15
                      try clear c15b0
                      try clear c15b1
                      try clear p16
                      try clear q16
                      try clear hx16
                      try clear qi16
                      try clear c17
                      try clear c17b0
                      try clear c17b1
                      try clear c18
                      try clear c18b0
                      try clear c19
                      try clear c19b0
                      try clear c20
                      try clear c20b0
                      try clear p21
                      try clear q21
                      try clear hx21
                      try clear c22
                      try clear c22b0
                      try clear c23
                      try clear c23b0
                      try clear c24
                      try clear c24b0
                      try clear p25
                      try clear q25
                      try clear hx25
                      try clear c26
                      try clear p1
                      try clear p16
                      try clear p2
                      try clear p21
                      try clear p25
                      try clear p6
                      try clear q1
                      try clear q16
                      try clear q2
                      try clear q21
                      try clear q25
                      try clear q6
                      obtain ⟨x7_5, x8_5, rfl, rfl, HA, HK5, ⟨m5, rfl⟩⟩ := hrel
                      cases gk with
                      | zero => exact absurd HA.out (by simp [merinoref01_form.l0])
                      | succ k5 =>
                        have H := HA.out
                        clear HA
                        simp only [merinoref01_form.l0] at H
                        by_cases c27 : x8_5 < (x0_6.size : Int)
                        · rw [if_pos c27] at H
                          have c27b0 : decide (x8_5 < (x0_6.size : Int)) = true := decide_eq_true c27
                          clear c27
                          by_cases c28 : x8_5 = x6_9
                          · rw [if_pos c28] at H
                            have c28b0 : (x8_5 == x6_9) = true := beq_iff_eq.mpr c28
                            have c28b1 : (x8_5 != x6_9) = false := bne_eq_false_iff_eq.mpr c28
                            clear c28
                            have H' := Aside0.mk H
                            clear H
                            go_wp2
                            go_roundg k5
                            case measure => have := HJ2.out; have := HJ6.out; have := HJ9.out; have := HJ11.out; have := HK5.out; omega
                            case rel => exact ⟨(x7_5), (wrap64 (x8_5 + 1)), (by first | rfl | (simp; done) | (simp [*]; done)), (by first | rfl | (simp; done) | (simp [*]; done)), H', ⟨by have := HJ2.out; have := HJ6.out; have := HJ9.out; have := HJ11.out; have := HK5.out; omega⟩, by repeat (first | exact Drawn0.refl _ | apply Drawn0.step)⟩
                          · rw [if_neg c28] at H
                            have c28b0 : (x8_5 == x6_9) = false := beq_eq_false_iff_ne.mpr c28
                            have c28b1 : (x8_5 != x6_9) = true := bne_iff_ne.mpr c28
                            by_cases c29 : 0 ≤ x8_5
                            · rw [if_pos c29] at H
                              have c29b0 : decide (0 ≤ x8_5) = true := decide_eq_true c29
                              clear c29
                              by_cases c31 : (bt x0_6 x8_5) < 48
                              · rw [if_pos c31] at H
                                have c31b0 : decide ((bt x0_6 x8_5) < 48) = true := decide_eq_true c31
                                clear c31
                                obtain rfl := Option.some.inj H
                                have p30 : 0 ≤ (x8_5 : Int) := of_decide_eq_true (by first | (with_reducible assumption) | assumption)
                                have q30 : x8_5 < (x0_6.size : Int) := of_decide_eq_true (by first | (with_reducible assumption) | assumption)
                                have hx30 := bt_at x0_6 x8_5
                                replace p30 := eq_true p30
                                replace q30 := eq_true q30
                                go_wp2
                                go_ret
                                exact ⟨by first | rfl | (simp; done) | (simp [*]; done), by repeat (first | exact Drawn0.refl _ | apply Drawn0.step)⟩
                              · rw [if_neg c31] at H
                                have c31b0 : decide ((bt x0_6 x8_5) < 48) = false := decide_eq_false c31
                                clear c31
                                by_cases c33 : (bt x0_6 x8_5) > 57
                                · rw [if_pos c33] at H
                                  have c33b0 : decide (57 < (bt x0_6 x8_5)) = true := decide_eq_true c33
                                  clear c33
                                  obtain rfl := Option.some.inj H
                                  have p30 : 0 ≤ (x8_5 : Int) := of_decide_eq_true (by first | (with_reducible assumption) | assumption)
                                  have q30 : x8_5 < (x0_6.size : Int) := of_decide_eq_true (by first | (with_reducible assumption) | assumption)
                                  have hx30 := bt_at x0_6 x8_5
                                  replace p30 := eq_true p30
                                  replace q30 := eq_true q30
                                  have p32 : 0 ≤ (x8_5 : Int) := of_decide_eq_true (by first | (with_reducible assumption) | assumption)
                                  have q32 : x8_5 < (x0_6.size : Int) := of_decide_eq_true (by first | (with_reducible assumption) | assumption)
                                  have hx32 := bt_at x0_6 x8_5
                                  replace p32 := eq_true p32
                                  replace q32 := eq_true q32
                                  go_wp2
                                  go_ret
                                  exact ⟨by first | rfl | (simp; done) | (simp [*]; done), by repeat (first | exact Drawn0.refl _ | apply Drawn0.step)⟩
                                · rw [if_neg c33] at H
                                  have c33b0 : decide (57 < (bt x0_6 x8_5)) = false := decide_eq_false c33
                                  clear c33
                                  by_cases c34 : x7_5 = true
                                  · subst c34
                                    have H1 : (merinoref01_form.l0 k5 x0_6 x5_2 x6_9 ((bt x0_6 x8_5) == 48) (wrap64 (x8_5 + 1))) = some r := by rw [if_pos rfl] at H; exact H
                                    clear H
                                    have H := H1
                                    clear H1
                                    have H' := Aside0.mk H
                                    clear H
                                    have p30 : 0 ≤ (x8_5 : Int) := of_decide_eq_true (by first | (with_reducible assumption) | assumption)
                                    have q30 : x8_5 < (x0_6.size : Int) := of_decide_eq_true (by first | (with_reducible assumption) | assumption)
                                    have hx30 := bt_at x0_6 x8_5
                                    replace p30 := eq_true p30
                                    replace q30 := eq_true q30
                                    have p32 : 0 ≤ (x8_5 : Int) := of_decide_eq_true (by first | (with_reducible assumption) | assumption)
                                    have q32 : x8_5 < (x0_6.size : Int) := of_decide_eq_true (by first | (with_reducible assumption) | assumption)
                                    have hx32 := bt_at x0_6 x8_5
                                    replace p32 := eq_true p32
                                    replace q32 := eq_true q32
                                    have p35 : 0 ≤ (x8_5 : Int) := of_decide_eq_true (by first | (with_reducible assumption) | assumption)
                                    have q35 : x8_5 < (x0_6.size : Int) := of_decide_eq_true (by first | (with_reducible assumption) | assumption)
                                    have hx35 := bt_at x0_6 x8_5
                                    replace p35 := eq_true p35
                                    replace q35 := eq_true q35
                                    go_wp2
                                    go_roundg k5
                                    case measure => have := HJ2.out; have := HJ6.out; have := HJ9.out; have := HJ11.out; have := HK5.out; omega
                                    case rel => exact ⟨(((bt x0_6 x8_5) == 48)), (wrap64 (x8_5 + 1)), (by first | rfl | (simp; done) | (simp [*]; done)), (by first | rfl | (simp; done) | (simp [*]; done)), H', ⟨by have := HJ2.out; have := HJ6.out; have := HJ9.out; have := HJ11.out; have := HK5.out; omega⟩, by repeat (first | exact Drawn0.refl _ | apply Drawn0.step)⟩
                                  · replace c34 := Bool.eq_false_iff.mpr c34
                                    subst c34
                                    have H1 : (merinoref01_form.l0 k5 x0_6 x5_2 x6_9 false (wrap64 (x8_5 + 1))) = some r := by rw [if_neg (show ¬ (false = true) by decide)] at H; exact H
                                    clear H
                                    have H := H1
                                    clear H1
                                    have H' := Aside0.mk H
                                    clear H
                                    have p30 : 0 ≤ (x8_5 : Int) := of_decide_eq_true (by first | (with_reducible assumption) | assumption)
                                    have q30 : x8_5 < (x0_6.size : Int) := of_decide_eq_true (by first | (with_reducible assumption) | assumption)
                                    have hx30 := bt_at x0_6 x8_5
                                    replace p30 := eq_true p30
                                    replace q30 := eq_true q30
                                    have p32 : 0 ≤ (x8_5 : Int) := of_decide_eq_true (by first | (with_reducible assumption) | assumption)
                                    have q32 : x8_5 < (x0_6.size : Int) := of_decide_eq_true (by first | (with_reducible assumption) | assumption)
                                    have hx32 := bt_at x0_6 x8_5
                                    replace p32 := eq_true p32
                                    replace q32 := eq_true q32
                                    go_wp2
                                    go_roundg k5
                                    case measure => have := HJ2.out; have := HJ6.out; have := HJ9.out; have := HJ11.out; have := HK5.out; omega
                                    case rel => exact ⟨(false), (wrap64 (x8_5 + 1)), (by first | rfl | (simp; done) | (simp [*]; done)), (by first | rfl | (simp; done) | (simp [*]; done)), H', ⟨by have := HJ2.out; have := HJ6.out; have := HJ9.out; have := HJ11.out; have := HK5.out; omega⟩, by repeat (first | exact Drawn0.refl _ | apply Drawn0.step)⟩
                            · rw [if_neg c29] at H
                              exact absurd H (by simp)
                        · rw [if_neg c27] at H
                          have c27b0 : decide (x8_5 < (x0_6.size : Int)) = false := decide_eq_false c27
                          clear c27
                          by_cases c36 : x5_2 = true
                          · subst c36
                            have H1 : (some (!x7_5)) = some r := by rw [if_pos rfl] at H; exact H
                            clear H
                            have H := H1
                            clear H1
                            obtain rfl := Option.some.inj H
                            go_wp2
                            go_ret
                            exact ⟨by first | rfl | (simp; done) | (simp [*]; done), by repeat (first | exact Drawn0.refl _ | apply Drawn0.step)⟩
                          · replace c36 := Bool.eq_false_iff.mpr c36
                            subst c36
                            have H1 : (some true) = some r := by rw [if_neg (show ¬ (false = true) by decide)] at H; exact H
                            clear H
                            have H := H1
                            clear H1
                            obtain rfl := Option.some.inj H
                            go_wp2
                            go_ret
                            exact ⟨by first | rfl | (simp; done) | (simp [*]; done), by repeat (first | exact Drawn0.refl _ | apply Drawn0.step)⟩

/-! ### merinoref01_ParseDecimal: function 13 -/
mutual
def merinoref01_ParseDecimal.j0 : Nat → ByteArray → Int → Bool → Option (Int × Int)
  | 0, _, _, _ => none
  | k + 1, x0, x1, x13 => if x13 = true then (some (0, 2)) else ((merinoref01_form.f k x0 x1).bind fun t189 => (if t189 = true then (merinoref01_ParseDecimal.l0 k x0 0 0) else (some (0, 6))))
def merinoref01_ParseDecimal.l0 : Nat → ByteArray → Int → Int → Option (Int × Int)
  | 0, _, _, _ => none
  | k + 1, x0, x6, x7 => if x7 < (x0.size : Int) then (if 0 ≤ x7 then (if (bt x0 x7) < 48 then (merinoref01_ParseDecimal.j2 k x0 x6 x7 true) else (merinoref01_ParseDecimal.j2 k x0 x6 x7 (decide ((bt x0 x7) > 57)))) else (none)) else (if 0 < (x0.size : Int) then (if (bt x0 0) = 45 then (some (wrap64 (-x6), 0)) else (some (x6, 0))) else (none))
def merinoref01_ParseDecimal.j2 : Nat → ByteArray → Int → Int → Bool → Option (Int × Int)
  | 0, _, _, _, _ => none
  | k + 1, x0, x6, x7, x33 => if x33 = true then (merinoref01_ParseDecimal.l0 k x0 x6 (wrap64 (x7 + 1))) else (if 0 ≤ x7 then (if x7 < (x0.size : Int) then (if (wrap64 ((wrap64 (10 * x6)) + (((bt x0 x7) - 48) % 256))) > 1125899906842624 then (some (0, 4)) else (merinoref01_ParseDecimal.l0 k x0 (wrap64 ((wrap64 (10 * x6)) + (((bt x0 x7) - 48) % 256))) (wrap64 (x7 + 1)))) else (none)) else (none))
end
def merinoref01_ParseDecimal.f (k : Nat) (a0 : ByteArray) (a1 : Int) : Option (Int × Int) := if a1 < 0 then (merinoref01_ParseDecimal.j0 k a0 a1 true) else (merinoref01_ParseDecimal.j0 k a0 a1 (decide (a1 > 9)))
theorem merinoref01_ParseDecimal.mono_l : ∀ k, (∀ y0 y1 y2, LeO (merinoref01_ParseDecimal.j0 k y0 y1 y2) (merinoref01_ParseDecimal.j0 (k + 1) y0 y1 y2)) ∧ (∀ y0 y1 y2, LeO (merinoref01_ParseDecimal.l0 k y0 y1 y2) (merinoref01_ParseDecimal.l0 (k + 1) y0 y1 y2)) ∧ (∀ y0 y1 y2 y3, LeO (merinoref01_ParseDecimal.j2 k y0 y1 y2 y3) (merinoref01_ParseDecimal.j2 (k + 1) y0 y1 y2 y3))
  | 0 => ⟨fun _ _ _ r h => by simp [merinoref01_ParseDecimal.j0] at h, fun _ _ _ r h => by simp [merinoref01_ParseDecimal.l0] at h, fun _ _ _ _ r h => by simp [merinoref01_ParseDecimal.j2] at h⟩
  | k + 1 => by
    obtain ⟨ih0, ih1, ih2⟩ := merinoref01_ParseDecimal.mono_l k
    refine ⟨?_, ?_, ?_⟩
    · intro y0 y1 y2
      unfold merinoref01_ParseDecimal.j0
      repeat' first
      | (with_reducible exact ih0 _ _ _)
      | (with_reducible exact ih1 _ _ _)
      | (with_reducible exact ih2 _ _ _ _)
      | (with_reducible exact merinoref01_form.mono _ _ _)
      | (with_reducible exact LeO.refl _)
      | (with_reducible exact LeO.none _)
      | (with_reducible refine LeO.ite ?_ ?_)
      | (with_reducible refine LeO.bind ?_ (fun _ => ?_))
      | exact ih0 _ _ _
      | exact ih1 _ _ _
      | exact ih2 _ _ _ _
      | exact merinoref01_form.mono _ _ _
      | exact LeO.none _
      | refine LeO.ite ?_ ?_
      | refine LeO.bind ?_ (fun _ => ?_)
    · intro y0 y1 y2
      unfold merinoref01_ParseDecimal.l0
      repeat' first
      | (with_reducible exact ih0 _ _ _)
      | (with_reducible exact ih1 _ _ _)
      | (with_reducible exact ih2 _ _ _ _)
      | (with_reducible exact merinoref01_form.mono _ _ _)
      | (with_reducible exact LeO.refl _)
      | (with_reducible exact LeO.none _)
      | (with_reducible refine LeO.ite ?_ ?_)
      | (with_reducible refine LeO.bind ?_ (fun _ => ?_))
      | exact ih0 _ _ _
      | exact ih1 _ _ _
      | exact ih2 _ _ _ _
      | exact merinoref01_form.mono _ _ _
      | exact LeO.none _
      | refine LeO.ite ?_ ?_
      | refine LeO.bind ?_ (fun _ => ?_)
    · intro y0 y1 y2 y3
      unfold merinoref01_ParseDecimal.j2
      repeat' first
      | (with_reducible exact ih0 _ _ _)
      | (with_reducible exact ih1 _ _ _)
      | (with_reducible exact ih2 _ _ _ _)
      | (with_reducible exact merinoref01_form.mono _ _ _)
      | (with_reducible exact LeO.refl _)
      | (with_reducible exact LeO.none _)
      | (with_reducible refine LeO.ite ?_ ?_)
      | (with_reducible refine LeO.bind ?_ (fun _ => ?_))
      | exact ih0 _ _ _
      | exact ih1 _ _ _
      | exact ih2 _ _ _ _
      | exact merinoref01_form.mono _ _ _
      | exact LeO.none _
      | refine LeO.ite ?_ ?_
      | refine LeO.bind ?_ (fun _ => ?_)
theorem merinoref01_ParseDecimal.mono : ∀ a0 a1 k, LeO (merinoref01_ParseDecimal.f k a0 a1) (merinoref01_ParseDecimal.f (k + 1) a0 a1) := by
  intro a0 a1 k
  obtain ⟨ih0, ih1, ih2⟩ := merinoref01_ParseDecimal.mono_l k
  unfold merinoref01_ParseDecimal.f
  repeat' first
      | (with_reducible exact ih0 _ _ _)
      | (with_reducible exact ih1 _ _ _)
      | (with_reducible exact ih2 _ _ _ _)
      | (with_reducible exact merinoref01_form.mono _ _ _)
      | (with_reducible exact LeO.refl _)
      | (with_reducible exact LeO.none _)
      | (with_reducible refine LeO.ite ?_ ?_)
      | (with_reducible refine LeO.bind ?_ (fun _ => ?_))
      | exact ih0 _ _ _
      | exact ih1 _ _ _
      | exact ih2 _ _ _ _
      | exact merinoref01_form.mono _ _ _
      | exact LeO.none _
      | refine LeO.ite ?_ ?_
      | refine LeO.bind ?_ (fun _ => ?_)
set_option maxHeartbeats 8000000 in
set_option maxRecDepth 100000 in
theorem merinoref01_ParseDecimal.calls (k : Nat) (a0 : ByteArray) (a1 : Int) (r1 : Int) (r2 : Int) (w : World) (h : merinoref01_ParseDecimal.f k a0 a1 = some (r1, r2)) :
    Calls Tryz.prog 13 #[.string a0, .int .i64 a1] w fun e w' => e = .returned (.tuple #[.int .i64 r1, .int .i64 r2]) ∧ Drawn0 w w' := by
  have H : (if a1 < 0 then (merinoref01_ParseDecimal.j0 k a0 a1 true) else (merinoref01_ParseDecimal.j0 k a0 a1 (decide (a1 > 9)))) = some (r1, r2) := h
  clear h
  have HC3 := Aside0.mk H
  clear H
  go_enter Tryz.func13, Tryz.ntmps13
  go_upto_region 1 with (fail)
  go_cut [13] (fun v13 wc => ∃ (kq : Nat) (x13_2 : Bool), v13 = .bool x13_2 ∧ Aside0 (merinoref01_ParseDecimal.j0 kq a0 a1 x13_2 = some (r1, r2)) ∧ Aside0 (kq ≤ k) ∧ Drawn0 w wc)
  case first =>
    have H := HC3.out
    clear HC3
    by_cases c4 : a1 < 0
    · rw [if_pos c4] at H
      have c4b0 : decide (a1 < 0) = true := decide_eq_true c4
      clear c4
      (first | rw [c4b0] | (simp only [i64_w, i32_w]; rw [c4b0]) | skip)
      have H' := Aside0.mk H
      clear H
      go_wp2
      go_meet
      case rel => exact ⟨_, (true), (by first | rfl | (simp; done) | (simp [*]; done)), H', ⟨by first | omega | exact Nat.le_refl _⟩, by repeat (first | exact Drawn0.refl _ | apply Drawn0.step)⟩
    · rw [if_neg c4] at H
      have c4b0 : decide (a1 < 0) = false := decide_eq_false c4
      clear c4
      (first | rw [c4b0] | (simp only [i64_w, i32_w]; rw [c4b0]) | skip)
      have H' := Aside0.mk H
      clear H
      go_wp2
      go_meet
      case rel => exact ⟨_, (decide (a1 > 9)), (by first | rfl | (simp; done) | (simp [*]; done)), H', ⟨by first | omega | exact Nat.le_refl _⟩, by repeat (first | exact Drawn0.refl _ | apply Drawn0.step)⟩
  case rest =>
    clear HC3
    try clear c1
    try clear p2
    try clear c4
    try clear c4b0
    obtain ⟨kq, x13_2, rfl, HA, HJ2, ⟨mc2, rfl⟩⟩ := hcut
    cases kq with
    | zero => exact absurd HA.out (by simp [merinoref01_ParseDecimal.j0])
    | succ kj2 =>
      have H := HA.out
      clear HA
      simp only [merinoref01_ParseDecimal.j0] at H
      by_cases c5 : x13_2 = true
      · subst c5
        have H1 : (some (0, 2)) = some (r1, r2) := by rw [if_pos rfl] at H; exact H
        clear H
        have H := H1
        clear H1
        simp only [Option.some.injEq, Prod.mk.injEq] at H
        obtain ⟨rfl, rfl⟩ := H
        go_wp2
        go_ret2
        exact ⟨by first | rfl | (simp; done) | (simp [*]; done), by repeat (first | exact Drawn0.refl _ | apply Drawn0.step)⟩
      · replace c5 := Bool.eq_false_iff.mpr c5
        subst c5
        have H1 : ((merinoref01_form.f kj2 a0 a1).bind fun t189 => (if t189 = true then (merinoref01_ParseDecimal.l0 kj2 a0 0 0) else (some (0, 6)))) = some (r1, r2) := by rw [if_neg (show ¬ (false = true) by decide)] at H; exact H
        clear H
        have H := H1
        clear H1
        replace H := Option.bind_eq_some_iff.mp H
        obtain ⟨t189, A60, H⟩ := H
        replace H : (if t189 = true then (merinoref01_ParseDecimal.l0 kj2 a0 0 0) else (some (0, 6))) = some (r1, r2) := H
        have A6 := Aside0.mk A60
        clear A60
        by_cases c7 : t189 = true
        · subst c7
          have H1 : (merinoref01_ParseDecimal.l0 kj2 a0 0 0) = some (r1, r2) := by rw [if_pos rfl] at H; exact H
          clear H
          have H := H1
          clear H1
          have H' := Aside0.mk H
          clear H
          go_wp2_with (first | ((with_reducible refine gate_callee (f := 33) rfl ?_); refine goesL_ (some 16) rfl rfl Tryz.func33 (by kernel_rfl) rfl #[.string a0, .int .i64 a1] rfl (by (try simp only [List.map_toArray, List.map_cons, List.map_nil]); first | done | rfl | (simp only [List.length_drop, List.length_take]; rfl)) ?_; (with_reducible refine (merinoref01_form.calls kj2 a0 a1 true _ A6.out).mono ?_); rintro e w' ⟨rfl, ⟨nd, rfl⟩⟩; refine ⟨_, rfl, ?_⟩))
          go_loopg [6, 7] kj2 (fun kq v6 v7 w' => ∃ (x6_2 : Int) (x7_2 : Int), v6 = .int .i64 x6_2 ∧ v7 = .int .i64 x7_2 ∧ Aside0 (merinoref01_ParseDecimal.l0 kq a0 x6_2 x7_2 = some (r1, r2)) ∧ Aside0 (kq ≤ kj2) ∧ Drawn0 w w')
          case atStart => exact ⟨(0), (0), (by first | rfl | (simp; done) | (simp [*]; done)), (by first | rfl | (simp; done) | (simp [*]; done)), H', ⟨Nat.le_refl _⟩, by repeat (first | exact Drawn0.refl _ | apply Drawn0.step)⟩
          case round =>
            clear H'
            try clear c1
            try clear c2
            try clear p2
            try clear c3
            try clear c4
            try clear c4b0
            try clear c5
            try clear c7
            try clear p2
            obtain ⟨x6_2, x7_2, rfl, rfl, HA, HK2, ⟨m2, rfl⟩⟩ := hrel
            cases gk with
            | zero => exact absurd HA.out (by simp [merinoref01_ParseDecimal.l0])
            | succ k2 =>
              have H := HA.out
              clear HA
              simp only [merinoref01_ParseDecimal.l0] at H
              by_cases c8 : x7_2 < (a0.size : Int)
              · rw [if_pos c8] at H
                have c8b0 : decide (x7_2 < (a0.size : Int)) = true := decide_eq_true c8
                clear c8
                have HC9 := Aside0.mk H
                clear H
                go_upto_region 9 with (fail)
                go_cut [33] (fun v33 wc => ∃ (kq : Nat) (x33_8 : Bool), v33 = .bool x33_8 ∧ Aside0 (merinoref01_ParseDecimal.j2 kq a0 x6_2 x7_2 x33_8 = some (r1, r2)) ∧ Aside0 (kq ≤ k2) ∧ Drawn0 w wc)
                case first =>
                  have H := HC9.out
                  clear HC9
                  by_cases c10 : 0 ≤ x7_2
                  · rw [if_pos c10] at H
                    have c10b0 : decide (0 ≤ x7_2) = true := decide_eq_true c10
                    clear c10
                    (first | rw [c10b0] | (simp only [i64_w, i32_w]; rw [c10b0]) | skip)
                    by_cases c12 : (bt a0 x7_2) < 48
                    · rw [if_pos c12] at H
                      have c12b0 : decide ((bt a0 x7_2) < 48) = true := decide_eq_true c12
                      clear c12
                      have H' := Aside0.mk H
                      clear H
                      have p11 : 0 ≤ (x7_2 : Int) := of_decide_eq_true (by first | (with_reducible assumption) | assumption)
                      have q11 : x7_2 < (a0.size : Int) := of_decide_eq_true (by first | (with_reducible assumption) | assumption)
                      have hx11 := bt_at a0 x7_2
                      replace p11 := eq_true p11
                      replace q11 := eq_true q11
                      go_wp2
                      go_meet
                      case rel => exact ⟨_, (true), (by first | rfl | (simp; done) | (simp [*]; done)), H', ⟨by have := HJ2.out; have := HK2.out; first | omega | exact Nat.le_refl _⟩, by repeat (first | exact Drawn0.refl _ | apply Drawn0.step)⟩
                    · rw [if_neg c12] at H
                      have c12b0 : decide ((bt a0 x7_2) < 48) = false := decide_eq_false c12
                      clear c12
                      have H' := Aside0.mk H
                      clear H
                      have p11 : 0 ≤ (x7_2 : Int) := of_decide_eq_true (by first | (with_reducible assumption) | assumption)
                      have q11 : x7_2 < (a0.size : Int) := of_decide_eq_true (by first | (with_reducible assumption) | assumption)
                      have hx11 := bt_at a0 x7_2
                      replace p11 := eq_true p11
                      replace q11 := eq_true q11
                      have p13 : 0 ≤ (x7_2 : Int) := of_decide_eq_true (by first | (with_reducible assumption) | assumption)
                      have q13 : x7_2 < (a0.size : Int) := of_decide_eq_true (by first | (with_reducible assumption) | assumption)
                      have hx13 := bt_at a0 x7_2
                      replace p13 := eq_true p13
                      replace q13 := eq_true q13
                      go_wp2
                      go_meet
                      case rel => exact ⟨_, (decide ((bt a0 x7_2) > 57)), (by first | rfl | (simp; done) | (simp [*]; done)), H', ⟨by have := HJ2.out; have := HK2.out; first | omega | exact Nat.le_refl _⟩, by repeat (first | exact Drawn0.refl _ | apply Drawn0.step)⟩
                  · rw [if_neg c10] at H
                    exact absurd H (by simp)
                case rest =>
                  clear HC9
                  try clear c1
                  try clear p1
                  try clear q1
                  try clear hx1
                  try clear c2
                  try clear p2
                  try clear c3
                  try clear c4
                  try clear c4b0
                  try clear c5
                  try clear c7
                  try clear c8
                  try clear c8b0
                  try clear c10
                  try clear c10b0
                  try clear p11
                  try clear q11
                  try clear hx11
                  try clear c12
                  try clear c12b0
                  try clear c13
                  try clear p13
                  try clear q13
                  try clear hx13
                  try clear p11
                  try clear p13
                  try clear p2
                  try clear q11
                  try clear q13
                  obtain ⟨kq, x33_8, rfl, HA, HJ8, ⟨mc8, rfl⟩⟩ := hcut
                  cases kq with
                  | zero => exact absurd HA.out (by simp [merinoref01_ParseDecimal.j2])
                  | succ kj8 =>
                    have H := HA.out
                    clear HA
                    simp only [merinoref01_ParseDecimal.j2] at H
                    by_cases c14 : x33_8 = true
                    · subst c14
                      have H1 : (merinoref01_ParseDecimal.l0 kj8 a0 x6_2 (wrap64 (x7_2 + 1))) = some (r1, r2) := by rw [if_pos rfl] at H; exact H
                      clear H
                      have H := H1
                      clear H1
                      have H' := Aside0.mk H
                      clear H
                      go_wp2
                      go_roundg kj8
                      case measure => have := HJ2.out; have := HK2.out; have := HJ8.out; omega
                      case rel => exact ⟨(x6_2), (wrap64 (x7_2 + 1)), (by first | rfl | (simp; done) | (simp [*]; done)), (by first | rfl | (simp; done) | (simp [*]; done)), H', ⟨by have := HJ2.out; have := HK2.out; have := HJ8.out; omega⟩, by repeat (first | exact Drawn0.refl _ | apply Drawn0.step)⟩
                    · replace c14 := Bool.eq_false_iff.mpr c14
                      subst c14
                      have H1 : (if 0 ≤ x7_2 then (if x7_2 < (a0.size : Int) then (if (wrap64 ((wrap64 (10 * x6_2)) + (((bt a0 x7_2) - 48) % 256))) > 1125899906842624 then (some (0, 4)) else (merinoref01_ParseDecimal.l0 kj8 a0 (wrap64 ((wrap64 (10 * x6_2)) + (((bt a0 x7_2) - 48) % 256))) (wrap64 (x7_2 + 1)))) else (none)) else (none)) = some (r1, r2) := by rw [if_neg (show ¬ (false = true) by decide)] at H; exact H
                      clear H
                      have H := H1
                      clear H1
                      by_cases c15 : 0 ≤ x7_2
                      · rw [if_pos c15] at H
                        have c15b0 : decide (0 ≤ x7_2) = true := decide_eq_true c15
                        clear c15
                        by_cases c16 : x7_2 < (a0.size : Int)
                        · rw [if_pos c16] at H
                          have c16b0 : decide (x7_2 < (a0.size : Int)) = true := decide_eq_true c16
                          clear c16
                          by_cases c18 : (wrap64 ((wrap64 (10 * x6_2)) + (((bt a0 x7_2) - 48) % 256))) > 1125899906842624
                          · rw [if_pos c18] at H
                            have c18b0 : decide (1125899906842624 < (wrap64 ((wrap64 (10 * x6_2)) + (((bt a0 x7_2) - 48) % 256)))) = true := decide_eq_true c18
                            clear c18
                            simp only [Option.some.injEq, Prod.mk.injEq] at H
                            obtain ⟨rfl, rfl⟩ := H
                            have p17 : 0 ≤ (x7_2 : Int) := of_decide_eq_true (by first | (with_reducible assumption) | assumption)
                            have q17 : x7_2 < (a0.size : Int) := of_decide_eq_true (by first | (with_reducible assumption) | assumption)
                            have hx17 := bt_at a0 x7_2
                            replace p17 := eq_true p17
                            replace q17 := eq_true q17
                            go_wp2
                            go_ret2
                            exact ⟨by first | rfl | (simp; done) | (simp [*]; done), by repeat (first | exact Drawn0.refl _ | apply Drawn0.step)⟩
                          · rw [if_neg c18] at H
                            have c18b0 : decide (1125899906842624 < (wrap64 ((wrap64 (10 * x6_2)) + (((bt a0 x7_2) - 48) % 256)))) = false := decide_eq_false c18
                            clear c18
                            have H' := Aside0.mk H
                            clear H
                            have p17 : 0 ≤ (x7_2 : Int) := of_decide_eq_true (by first | (with_reducible assumption) | assumption)
                            have q17 : x7_2 < (a0.size : Int) := of_decide_eq_true (by first | (with_reducible assumption) | assumption)
                            have hx17 := bt_at a0 x7_2
                            replace p17 := eq_true p17
                            replace q17 := eq_true q17
                            go_wp2
                            go_roundg kj8
                            case measure => have := HJ2.out; have := HK2.out; have := HJ8.out; omega
                            case rel => exact ⟨(wrap64 ((wrap64 (10 * x6_2)) + (((bt a0 x7_2) - 48) % 256))), (wrap64 (x7_2 + 1)), (by first | rfl | (simp; done) | (simp [*]; done)), (by first | rfl | (simp; done) | (simp [*]; done)), H', ⟨by have := HJ2.out; have := HK2.out; have := HJ8.out; omega⟩, by repeat (first | exact Drawn0.refl _ | apply Drawn0.step)⟩
                        · rw [if_neg c16] at H
                          exact absurd H (by simp)
                      · rw [if_neg c15] at H
                        exact absurd H (by simp)
              · rw [if_neg c8] at H
                have c8b0 : decide (x7_2 < (a0.size : Int)) = false := decide_eq_false c8
                clear c8
                by_cases c19 : 0 < (a0.size : Int)
                · rw [if_pos c19] at H
                  have c19b0 : decide (0 < (a0.size : Int)) = true := decide_eq_true c19
                  have c19b1 : decide (0 < a0.size) = true := decide_eq_true (by omega)
                  clear c19
                  by_cases c21 : (bt a0 0) = 45
                  · rw [if_pos c21] at H
                    have c21b0 : ((bt a0 0) == 45) = true := beq_iff_eq.mpr c21
                    have c21b1 : ((bt a0 0) != 45) = false := bne_eq_false_iff_eq.mpr c21
                    clear c21
                    simp only [Option.some.injEq, Prod.mk.injEq] at H
                    obtain ⟨rfl, rfl⟩ := H
                    have p20 : 0 ≤ (0 : Int) := (by omega)
                    have q20 : 0 < a0.size := (by have : (0 : Int) < (a0.size : Int) := of_decide_eq_true (by first | (with_reducible assumption) | assumption); omega)
                    have hx20 : ∀ h : 0 < a0.size, ((a0[0]'h).toNat : Int) = bt a0 0 := bt_at a0 0
                    clear p20
                    have qi20 : (0 < (a0.size : Int)) = True := eq_true (of_decide_eq_true (by first | (with_reducible assumption) | assumption))
                    replace q20 := eq_true q20
                    go_wp2
                    go_ret2
                    exact ⟨by first | rfl | (simp; done) | (simp [*]; done), by repeat (first | exact Drawn0.refl _ | apply Drawn0.step)⟩
                  · rw [if_neg c21] at H
                    have c21b0 : ((bt a0 0) == 45) = false := beq_eq_false_iff_ne.mpr c21
                    have c21b1 : ((bt a0 0) != 45) = true := bne_iff_ne.mpr c21
                    simp only [Option.some.injEq, Prod.mk.injEq] at H
                    obtain ⟨rfl, rfl⟩ := H
                    have p20 : 0 ≤ (0 : Int) := (by omega)
                    have q20 : 0 < a0.size := (by have : (0 : Int) < (a0.size : Int) := of_decide_eq_true (by first | (with_reducible assumption) | assumption); omega)
                    have hx20 : ∀ h : 0 < a0.size, ((a0[0]'h).toNat : Int) = bt a0 0 := bt_at a0 0
                    clear p20
                    have qi20 : (0 < (a0.size : Int)) = True := eq_true (of_decide_eq_true (by first | (with_reducible assumption) | assumption))
                    replace q20 := eq_true q20
                    go_wp2
                    go_ret2
                    exact ⟨by first | rfl | (simp; done) | (simp [*]; done), by repeat (first | exact Drawn0.refl _ | apply Drawn0.step)⟩
                · rw [if_neg c19] at H
                  exact absurd H (by simp)
        · replace c7 := Bool.eq_false_iff.mpr c7
          subst c7
          have H1 : (some (0, 6)) = some (r1, r2) := by rw [if_neg (show ¬ (false = true) by decide)] at H; exact H
          clear H
          have H := H1
          clear H1
          simp only [Option.some.injEq, Prod.mk.injEq] at H
          obtain ⟨rfl, rfl⟩ := H
          go_wp2_with (first | ((with_reducible refine gate_callee (f := 33) rfl ?_); refine goesL_ (some 16) rfl rfl Tryz.func33 (by kernel_rfl) rfl #[.string a0, .int .i64 a1] rfl (by (try simp only [List.map_toArray, List.map_cons, List.map_nil]); first | done | rfl | (simp only [List.length_drop, List.length_take]; rfl)) ?_; (with_reducible refine (merinoref01_form.calls kj2 a0 a1 false _ A6.out).mono ?_); rintro e w' ⟨rfl, ⟨nd, rfl⟩⟩; refine ⟨_, rfl, ?_⟩))
          go_ret2
          exact ⟨by first | rfl | (simp; done) | (simp [*]; done), by repeat (first | exact Drawn0.refl _ | apply Drawn0.step)⟩
end Go.Proofs.YtdjnneflpkllmaaGreatDoor.Q
