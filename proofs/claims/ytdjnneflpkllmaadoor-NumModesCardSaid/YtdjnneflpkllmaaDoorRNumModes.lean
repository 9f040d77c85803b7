-- printed
import Derived.Test.YtdjnneflpkllmaaDoorRx0
import Derived.Test.YtdjnneflpkllmaaDoorR0
import Derived.Test.YtdjnneflpkllmaaDoorR3
import Derived.Test.YtdjnneflpkllmaaDoorR26
import Derived.Test.YtdjnneflpkllmaaDoorR33
namespace Go.Proofs.YtdjnneflpkllmaaDoor.Q
open Go.RowKit Go.Proofs.YtdjnneflpkllmaaDoorW.PrintWords Go.Proofs.YtdjnneflpkllmaaDoorW.PrintLast Go.Proofs.YtdjnneflpkllmaaDoorW.PrintMore
attribute [local go_sem] max2_int min2_int max_two min_two max_three min_three max_four min_four   -- for this text's walks alone
set_option linter.unusedVariables false
set_option linter.unusedSimpArgs false

/-! ### merinolaw01_NumModes: function 9 -/
mutual
def merinolaw01_NumModes.j0 : Nat → Int → Int → Int → Int → Int → Int → Bool → Int → Int → Option (Bool)
  | 0, _, _, _, _, _, _, _, _, _ => none
  | k + 1, x7, x9, x11, x13, x15, x17, x92, x713000, x713001 => if x92 = true then (some false) else (if x9 = (wrap64 (-x11)) then (if (((wrap64 (x9 - x7)) == 0) != (x713001 == 1)) = true then (merinolaw01_NumModes.j1 k x7 x9 x15 x17 true x713000 x713001) else (if (wrap64 (x9 - x7)) < 0 then (merinolaw01_NumModes.j1 k x7 x9 x15 x17 true x713000 x713001) else (if (wrap64 (x9 - x7)) > 1 then (merinolaw01_NumModes.j1 k x7 x9 x15 x17 true x713000 x713001) else (if x13 = x7 then (if x13 = x9 then (merinolaw01_NumModes.j1 k x7 x9 x15 x17 false x713000 x713001) else (merinolaw01_NumModes.j1 k x7 x9 x15 x17 (decide (x713000 < 0)) x713000 x713001)) else (if x713000 ≥ 0 then (merinolaw01_NumModes.j1 k x7 x9 x15 x17 true x713000 x713001) else (if x13 = x9 then (merinolaw01_NumModes.j1 k x7 x9 x15 x17 false x713000 x713001) else (merinolaw01_NumModes.j1 k x7 x9 x15 x17 (decide (x713000 < 0)) x713000 x713001))))))) else (merinolaw01_NumModes.j1 k x7 x9 x15 x17 true x713000 x713001))
def merinolaw01_NumModes.j1 : Nat → Int → Int → Int → Int → Bool → Int → Int → Option (Bool)
  | 0, _, _, _, _, _, _, _ => none
  | k + 1, x7, x9, x15, x17, x138, x713000, x713001 => if x138 = true then (some false) else (if x15 = x7 then (if x17 = x7 then (if x15 = x17 then (if (Int.tmod x17 2) = 0 then (if x713001 = 2 then (if x15 = x9 then ((merinolaw01_alive.f).bind fun t733 => (some t733)) else (some false)) else ((merinolaw01_alive.f).bind fun t734 => (some t734))) else (if x713001 = 2 then (some false) else ((merinolaw01_alive.f).bind fun t735 => (some t735)))) else (if x713001 = 2 then (if (Int.tmod x17 2) = 0 then (if x15 = x9 then ((merinolaw01_alive.f).bind fun t736 => (some t736)) else (some false)) else (some false)) else (some false))) else (if x17 = x9 then (if x15 = x17 then (if (Int.tmod x17 2) = 0 then (if x713001 = 2 then (if x15 = x9 then ((merinolaw01_alive.f).bind fun t737 => (some t737)) else (some false)) else ((merinolaw01_alive.f).bind fun t738 => (some t738))) else (if x713001 = 2 then (some false) else ((merinolaw01_alive.f).bind fun t739 => (some t739)))) else (if x713001 = 2 then (if (Int.tmod x17 2) = 0 then (if x15 = x9 then ((merinolaw01_alive.f).bind fun t740 => (some t740)) else (some false)) else (some false)) else (some false))) else (some false))) else (if x15 = x9 then (if x17 = x7 then (if x15 = x17 then (if (Int.tmod x17 2) = 0 then (if x713001 = 2 then ((merinolaw01_alive.f).bind fun t741 => (some t741)) else ((merinolaw01_alive.f).bind fun t742 => (some t742))) else (if x713001 = 2 then (some false) else ((merinolaw01_alive.f).bind fun t743 => (some t743)))) else (if x713001 = 2 then (if (Int.tmod x17 2) = 0 then ((merinolaw01_alive.f).bind fun t744 => (some t744)) else (some false)) else (some false))) else (if x17 = x9 then (if x15 = x17 then (if (Int.tmod x17 2) = 0 then (if x713001 = 2 then ((merinolaw01_alive.f).bind fun t745 => (some t745)) else ((merinolaw01_alive.f).bind fun t746 => (some t746))) else (if x713001 = 2 then (some false) else ((merinolaw01_alive.f).bind fun t747 => (some t747)))) else (if x713001 = 2 then (if (Int.tmod x17 2) = 0 then ((merinolaw01_alive.f).bind fun t748 => (some t748)) else (some false)) else (some false))) else (some false))) else (some false)))
end
def merinolaw01_NumModes.f (k : Nat) (a0_0 : Int) (a0_1 : Int) : Option (Bool) := (num_Valid.f k a0_0 a0_1).bind fun t713 => (if t713 = true then ((num_Neg.f k a0_0 a0_1).bind fun bt717 => ((num_Round.f k a0_0 a0_1 0).bind fun bt721 => ((num_Round.f k a0_0 a0_1 1).bind fun bt723 => ((num_Round.f k bt717.1 bt717.2.1 0).bind fun bt725 => ((num_Round.f k a0_0 a0_1 2).bind fun bt727 => ((num_Round.f k a0_0 a0_1 3).bind fun bt729 => ((num_Round.f k a0_0 a0_1 4).bind fun bt731 => (if bt717.2.2 = 0 then (if bt721.2 = 0 then (if bt723.2 = 0 then (if bt725.2 = 0 then (if bt727.2 = 0 then (if bt729.2 = 0 then (merinolaw01_NumModes.j0 k bt721.1 bt723.1 bt725.1 bt727.1 bt729.1 bt731.1 (bt731.2 != 0) a0_0 a0_1) else (merinolaw01_NumModes.j0 k bt721.1 bt723.1 bt725.1 bt727.1 bt729.1 bt731.1 true a0_0 a0_1)) else (merinolaw01_NumModes.j0 k bt721.1 bt723.1 bt725.1 bt727.1 bt729.1 bt731.1 true a0_0 a0_1)) else (merinolaw01_NumModes.j0 k bt721.1 bt723.1 bt725.1 bt727.1 bt729.1 bt731.1 true a0_0 a0_1)) else (merinolaw01_NumModes.j0 k bt721.1 bt723.1 bt725.1 bt727.1 bt729.1 bt731.1 true a0_0 a0_1)) else (merinolaw01_NumModes.j0 k bt721.1 bt723.1 bt725.1 bt727.1 bt729.1 bt731.1 true a0_0 a0_1)) else (merinolaw01_NumModes.j0 k bt721.1 bt723.1 bt725.1 bt727.1 bt729.1 bt731.1 true a0_0 a0_1))))))))) else ((num_Round.f k a0_0 a0_1 0).bind fun bt714 => (if bt714.2 = 2 then ((merinolaw01_alive.f).bind fun t716 => (some t716)) else (some false))))
theorem merinolaw01_NumModes.mono_l : ∀ k, (∀ y0 y1 y2 y3 y4 y5 y6 y7 y8, LeO (merinolaw01_NumModes.j0 k y0 y1 y2 y3 y4 y5 y6 y7 y8) (merinolaw01_NumModes.j0 (k + 1) y0 y1 y2 y3 y4 y5 y6 y7 y8)) ∧ (∀ y0 y1 y2 y3 y4 y5 y6, LeO (merinolaw01_NumModes.j1 k y0 y1 y2 y3 y4 y5 y6) (merinolaw01_NumModes.j1 (k + 1) y0 y1 y2 y3 y4 y5 y6))
  | 0 => ⟨fun _ _ _ _ _ _ _ _ _ r h => by simp [merinolaw01_NumModes.j0] at h, fun _ _ _ _ _ _ _ r h => by simp [merinolaw01_NumModes.j1] at h⟩
  | k + 1 => by
    obtain ⟨ih0, ih1⟩ := merinolaw01_NumModes.mono_l k
    refine ⟨?_, ?_⟩
    · intro y0 y1 y2 y3 y4 y5 y6 y7 y8
      unfold merinolaw01_NumModes.j0
      repeat' first
      | (with_reducible exact ih0 _ _ _ _ _ _ _ _ _)
      | (with_reducible exact ih1 _ _ _ _ _ _ _)
      | (with_reducible exact num_Neg.mono _ _ _)
      | (with_reducible exact num_Round.mono _ _ _ _)
      | (with_reducible exact num_Valid.mono _ _ _)
      | (with_reducible exact LeO.refl _)
      | (with_reducible exact LeO.none _)
      | (with_reducible refine LeO.ite ?_ ?_)
      | (with_reducible refine LeO.bind ?_ (fun _ => ?_))
      | exact ih0 _ _ _ _ _ _ _ _ _
      | exact ih1 _ _ _ _ _ _ _
      | exact num_Neg.mono _ _ _
      | exact num_Round.mono _ _ _ _
      | exact num_Valid.mono _ _ _
      | exact LeO.none _
      | refine LeO.ite ?_ ?_
      | refine LeO.bind ?_ (fun _ => ?_)
    · intro y0 y1 y2 y3 y4 y5 y6
      unfold merinolaw01_NumModes.j1
      repeat' first
      | (with_reducible exact ih0 _ _ _ _ _ _ _ _ _)
      | (with_reducible exact ih1 _ _ _ _ _ _ _)
      | (with_reducible exact num_Neg.mono _ _ _)
      | (with_reducible exact num_Round.mono _ _ _ _)
      | (with_reducible exact num_Valid.mono _ _ _)
      | (with_reducible exact LeO.refl _)
      | (with_reducible exact LeO.none _)
      | (with_reducible refine LeO.ite ?_ ?_)
      | (with_reducible refine LeO.bind ?_ (fun _ => ?_))
      | exact ih0 _ _ _ _ _ _ _ _ _
      | exact ih1 _ _ _ _ _ _ _
      | exact num_Neg.mono _ _ _
      | exact num_Round.mono _ _ _ _
      | exact num_Valid.mono _ _ _
      | exact LeO.none _
      | refine LeO.ite ?_ ?_
      | refine LeO.bind ?_ (fun _ => ?_)
theorem merinolaw01_NumModes.mono : ∀ a0 a1 k, LeO (merinolaw01_NumModes.f k a0 a1) (merinolaw01_NumModes.f (k + 1) a0 a1) := by
  intro a0 a1 k
  obtain ⟨ih0, ih1⟩ := merinolaw01_NumModes.mono_l k
  unfold merinolaw01_NumModes.f
  repeat' first
      | (with_reducible exact ih0 _ _ _ _ _ _ _ _ _)
      | (with_reducible exact ih1 _ _ _ _ _ _ _)
      | (with_reducible exact num_Neg.mono _ _ _)
      | (with_reducible exact num_Round.mono _ _ _ _)
      | (with_reducible exact num_Valid.mono _ _ _)
      | (with_reducible exact LeO.refl _)
      | (with_reducible exact LeO.none _)
      | (with_reducible refine LeO.ite ?_ ?_)
      | (with_reducible refine LeO.bind ?_ (fun _ => ?_))
      | exact ih0 _ _ _ _ _ _ _ _ _
      | exact ih1 _ _ _ _ _ _ _
      | exact num_Neg.mono _ _ _
      | exact num_Round.mono _ _ _ _
      | exact num_Valid.mono _ _ _
      | exact LeO.none _
      | refine LeO.ite ?_ ?_
      | refine LeO.bind ?_ (fun _ => ?_)
set_option maxHeartbeats 8000000 in
set_option maxRecDepth 100000 in
theorem merinolaw01_NumModes.calls (k : Nat) (a0_0 : Int) (a0_1 : Int) (r : Bool) (w : World) (h : merinolaw01_NumModes.f k a0_0 a0_1 = some r) :
    Calls Tryd.prog 9 #[.agg #[.int .i64 a0_0, .int .i64 a0_1]] w fun e w' => e = .returned (.bool r) ∧ Below w.heap.size w w' := by
  have hu23 := Tryd.underlying23
  have HB := Aside0.mk (Below.refl w.heap.size w)
  have H : ((num_Valid.f k a0_0 a0_1).bind fun t713 => (if t713 = true then ((num_Neg.f k a0_0 a0_1).bind fun bt717 => ((num_Round.f k a0_0 a0_1 0).bind fun bt721 => ((num_Round.f k a0_0 a0_1 1).bind fun bt723 => ((num_Round.f k bt717.1 bt717.2.1 0).bind fun bt725 => ((num_Round.f k a0_0 a0_1 2).bind fun bt727 => ((num_Round.f k a0_0 a0_1 3).bind fun bt729 => ((num_Round.f k a0_0 a0_1 4).bind fun bt731 => (if bt717.2.2 = 0 then (if bt721.2 = 0 then (if bt723.2 = 0 then (if bt725.2 = 0 then (if bt727.2 = 0 then (if bt729.2 = 0 then (merinolaw01_NumModes.j0 k bt721.1 bt723.1 bt725.1 bt727.1 bt729.1 bt731.1 (bt731.2 != 0) a0_0 a0_1) else (merinolaw01_NumModes.j0 k bt721.1 bt723.1 bt725.1 bt727.1 bt729.1 bt731.1 true a0_0 a0_1)) else (merinolaw01_NumModes.j0 k bt721.1 bt723.1 bt725.1 bt727.1 bt729.1 bt731.1 true a0_0 a0_1)) else (merinolaw01_NumModes.j0 k bt721.1 bt723.1 bt725.1 bt727.1 bt729.1 bt731.1 true a0_0 a0_1)) else (merinolaw01_NumModes.j0 k bt721.1 bt723.1 bt725.1 bt727.1 bt729.1 bt731.1 true a0_0 a0_1)) else (merinolaw01_NumModes.j0 k bt721.1 bt723.1 bt725.1 bt727.1 bt729.1 bt731.1 true a0_0 a0_1)) else (merinolaw01_NumModes.j0 k bt721.1 bt723.1 bt725.1 bt727.1 bt729.1 bt731.1 true a0_0 a0_1))))))))) else ((num_Round.f k a0_0 a0_1 0).bind fun bt714 => (if bt714.2 = 2 then ((merinolaw01_alive.f).bind fun t716 => (some t716)) else (some false))))) = some r := h
  clear h
  replace H := Option.bind_eq_some_iff.mp H
  obtain ⟨t713, A20, H⟩ := H
  replace H : (if t713 = true then ((num_Neg.f k a0_0 a0_1).bind fun bt717 => ((num_Round.f k a0_0 a0_1 0).bind fun bt721 => ((num_Round.f k a0_0 a0_1 1).bind fun bt723 => ((num_Round.f k bt717.1 bt717.2.1 0).bind fun bt725 => ((num_Round.f k a0_0 a0_1 2).bind fun bt727 => ((num_Round.f k a0_0 a0_1 3).bind fun bt729 => ((num_Round.f k a0_0 a0_1 4).bind fun bt731 => (if bt717.2.2 = 0 then (if bt721.2 = 0 then (if bt723.2 = 0 then (if bt725.2 = 0 then (if bt727.2 = 0 then (if bt729.2 = 0 then (merinolaw01_NumModes.j0 k bt721.1 bt723.1 bt725.1 bt727.1 bt729.1 bt731.1 (bt731.2 != 0) a0_0 a0_1) else (merinolaw01_NumModes.j0 k bt721.1 bt723.1 bt725.1 bt727.1 bt729.1 bt731.1 true a0_0 a0_1)) else (merinolaw01_NumModes.j0 k bt721.1 bt723.1 bt725.1 bt727.1 bt729.1 bt731.1 true a0_0 a0_1)) else (merinolaw01_NumModes.j0 k bt721.1 bt723.1 bt725.1 bt727.1 bt729.1 bt731.1 true a0_0 a0_1)) else (merinolaw01_NumModes.j0 k bt721.1 bt723.1 bt725.1 bt727.1 bt729.1 bt731.1 true a0_0 a0_1)) else (merinolaw01_NumModes.j0 k bt721.1 bt723.1 bt725.1 bt727.1 bt729.1 bt731.1 true a0_0 a0_1)) else (merinolaw01_NumModes.j0 k bt721.1 bt723.1 bt725.1 bt727.1 bt729.1 bt731.1 true a0_0 a0_1))))))))) else ((num_Round.f k a0_0 a0_1 0).bind fun bt714 => (if bt714.2 = 2 then ((merinolaw01_alive.f).bind fun t716 => (some t716)) else (some false)))) = some r := H
  have A2 := Aside0.mk A20
  clear A20
  by_cases c3 : t713 = true
  · as_aux_lemma =>
    subst c3
    have H1 : ((num_Neg.f k a0_0 a0_1).bind fun bt717 => ((num_Round.f k a0_0 a0_1 0).bind fun bt721 => ((num_Round.f k a0_0 a0_1 1).bind fun bt723 => ((num_Round.f k bt717.1 bt717.2.1 0).bind fun bt725 => ((num_Round.f k a0_0 a0_1 2).bind fun bt727 => ((num_Round.f k a0_0 a0_1 3).bind fun bt729 => ((num_Round.f k a0_0 a0_1 4).bind fun bt731 => (if bt717.2.2 = 0 then (if bt721.2 = 0 then (if bt723.2 = 0 then (if bt725.2 = 0 then (if bt727.2 = 0 then (if bt729.2 = 0 then (merinolaw01_NumModes.j0 k bt721.1 bt723.1 bt725.1 bt727.1 bt729.1 bt731.1 (bt731.2 != 0) a0_0 a0_1) else (merinolaw01_NumModes.j0 k bt721.1 bt723.1 bt725.1 bt727.1 bt729.1 bt731.1 true a0_0 a0_1)) else (merinolaw01_NumModes.j0 k bt721.1 bt723.1 bt725.1 bt727.1 bt729.1 bt731.1 true a0_0 a0_1)) else (merinolaw01_NumModes.j0 k bt721.1 bt723.1 bt725.1 bt727.1 bt729.1 bt731.1 true a0_0 a0_1)) else (merinolaw01_NumModes.j0 k bt721.1 bt723.1 bt725.1 bt727.1 bt729.1 bt731.1 true a0_0 a0_1)) else (merinolaw01_NumModes.j0 k bt721.1 bt723.1 bt725.1 bt727.1 bt729.1 bt731.1 true a0_0 a0_1)) else (merinolaw01_NumModes.j0 k bt721.1 bt723.1 bt725.1 bt727.1 bt729.1 bt731.1 true a0_0 a0_1))))))))) = some r := by rw [if_pos rfl] at H; exact H
    clear H
    have H := H1
    clear H1
    replace H := Option.bind_eq_some_iff.mp H
    obtain ⟨⟨t717, t718, t719⟩, A40, H⟩ := H
    replace H : ((num_Round.f k a0_0 a0_1 0).bind fun bt721 => ((num_Round.f k a0_0 a0_1 1).bind fun bt723 => ((num_Round.f k t717 t718 0).bind fun bt725 => ((num_Round.f k a0_0 a0_1 2).bind fun bt727 => ((num_Round.f k a0_0 a0_1 3).bind fun bt729 => ((num_Round.f k a0_0 a0_1 4).bind fun bt731 => (if t719 = 0 then (if bt721.2 = 0 then (if bt723.2 = 0 then (if bt725.2 = 0 then (if bt727.2 = 0 then (if bt729.2 = 0 then (merinolaw01_NumModes.j0 k bt721.1 bt723.1 bt725.1 bt727.1 bt729.1 bt731.1 (bt731.2 != 0) a0_0 a0_1) else (merinolaw01_NumModes.j0 k bt721.1 bt723.1 bt725.1 bt727.1 bt729.1 bt731.1 true a0_0 a0_1)) else (merinolaw01_NumModes.j0 k bt721.1 bt723.1 bt725.1 bt727.1 bt729.1 bt731.1 true a0_0 a0_1)) else (merinolaw01_NumModes.j0 k bt721.1 bt723.1 bt725.1 bt727.1 bt729.1 bt731.1 true a0_0 a0_1)) else (merinolaw01_NumModes.j0 k bt721.1 bt723.1 bt725.1 bt727.1 bt729.1 bt731.1 true a0_0 a0_1)) else (merinolaw01_NumModes.j0 k bt721.1 bt723.1 bt725.1 bt727.1 bt729.1 bt731.1 true a0_0 a0_1)) else (merinolaw01_NumModes.j0 k bt721.1 bt723.1 bt725.1 bt727.1 bt729.1 bt731.1 true a0_0 a0_1)))))))) = some r := H
    have A4 := Aside0.mk A40
    clear A40
    replace H := Option.bind_eq_some_iff.mp H
    obtain ⟨⟨t721, t722⟩, A50, H⟩ := H
    replace H : ((num_Round.f k a0_0 a0_1 1).bind fun bt723 => ((num_Round.f k t717 t718 0).bind fun bt725 => ((num_Round.f k a0_0 a0_1 2).bind fun bt727 => ((num_Round.f k a0_0 a0_1 3).bind fun bt729 => ((num_Round.f k a0_0 a0_1 4).bind fun bt731 => (if t719 = 0 then (if t722 = 0 then (if bt723.2 = 0 then (if bt725.2 = 0 then (if bt727.2 = 0 then (if bt729.2 = 0 then (merinolaw01_NumModes.j0 k t721 bt723.1 bt725.1 bt727.1 bt729.1 bt731.1 (bt731.2 != 0) a0_0 a0_1) else (merinolaw01_NumModes.j0 k t721 bt723.1 bt725.1 bt727.1 bt729.1 bt731.1 true a0_0 a0_1)) else (merinolaw01_NumModes.j0 k t721 bt723.1 bt725.1 bt727.1 bt729.1 bt731.1 true a0_0 a0_1)) else (merinolaw01_NumModes.j0 k t721 bt723.1 bt725.1 bt727.1 bt729.1 bt731.1 true a0_0 a0_1)) else (merinolaw01_NumModes.j0 k t721 bt723.1 bt725.1 bt727.1 bt729.1 bt731.1 true a0_0 a0_1)) else (merinolaw01_NumModes.j0 k t721 bt723.1 bt725.1 bt727.1 bt729.1 bt731.1 true a0_0 a0_1)) else (merinolaw01_NumModes.j0 k t721 bt723.1 bt725.1 bt727.1 bt729.1 bt731.1 true a0_0 a0_1))))))) = some r := H
    have A5 := Aside0.mk A50
    clear A50
    replace H := Option.bind_eq_some_iff.mp H
    obtain ⟨⟨t723, t724⟩, A60, H⟩ := H
    replace H : ((num_Round.f k t717 t718 0).bind fun bt725 => ((num_Round.f k a0_0 a0_1 2).bind fun bt727 => ((num_Round.f k a0_0 a0_1 3).bind fun bt729 => ((num_Round.f k a0_0 a0_1 4).bind fun bt731 => (if t719 = 0 then (if t722 = 0 then (if t724 = 0 then (if bt725.2 = 0 then (if bt727.2 = 0 then (if bt729.2 = 0 then (merinolaw01_NumModes.j0 k t721 t723 bt725.1 bt727.1 bt729.1 bt731.1 (bt731.2 != 0) a0_0 a0_1) else (merinolaw01_NumModes.j0 k t721 t723 bt725.1 bt727.1 bt729.1 bt731.1 true a0_0 a0_1)) else (merinolaw01_NumModes.j0 k t721 t723 bt725.1 bt727.1 bt729.1 bt731.1 true a0_0 a0_1)) else (merinolaw01_NumModes.j0 k t721 t723 bt725.1 bt727.1 bt729.1 bt731.1 true a0_0 a0_1)) else (merinolaw01_NumModes.j0 k t721 t723 bt725.1 bt727.1 bt729.1 bt731.1 true a0_0 a0_1)) else (merinolaw01_NumModes.j0 k t721 t723 bt725.1 bt727.1 bt729.1 bt731.1 true a0_0 a0_1)) else (merinolaw01_NumModes.j0 k t721 t723 bt725.1 bt727.1 bt729.1 bt731.1 true a0_0 a0_1)))))) = some r := H
    have A6 := Aside0.mk A60
    clear A60
    replace H := Option.bind_eq_some_iff.mp H
    obtain ⟨⟨t725, t726⟩, A70, H⟩ := H
    replace H : ((num_Round.f k a0_0 a0_1 2).bind fun bt727 => ((num_Round.f k a0_0 a0_1 3).bind fun bt729 => ((num_Round.f k a0_0 a0_1 4).bind fun bt731 => (if t719 = 0 then (if t722 = 0 then (if t724 = 0 then (if t726 = 0 then (if bt727.2 = 0 then (if bt729.2 = 0 then (merinolaw01_NumModes.j0 k t721 t723 t725 bt727.1 bt729.1 bt731.1 (bt731.2 != 0) a0_0 a0_1) else (merinolaw01_NumModes.j0 k t721 t723 t725 bt727.1 bt729.1 bt731.1 true a0_0 a0_1)) else (merinolaw01_NumModes.j0 k t721 t723 t725 bt727.1 bt729.1 bt731.1 true a0_0 a0_1)) else (merinolaw01_NumModes.j0 k t721 t723 t725 bt727.1 bt729.1 bt731.1 true a0_0 a0_1)) else (merinolaw01_NumModes.j0 k t721 t723 t725 bt727.1 bt729.1 bt731.1 true a0_0 a0_1)) else (merinolaw01_NumModes.j0 k t721 t723 t725 bt727.1 bt729.1 bt731.1 true a0_0 a0_1)) else (merinolaw01_NumModes.j0 k t721 t723 t725 bt727.1 bt729.1 bt731.1 true a0_0 a0_1))))) = some r := H
    have A7 := Aside0.mk A70
    clear A70
    replace H := Option.bind_eq_some_iff.mp H
    obtain ⟨⟨t727, t728⟩, A80, H⟩ := H
    replace H : ((num_Round.f k a0_0 a0_1 3).bind fun bt729 => ((num_Round.f k a0_0 a0_1 4).bind fun bt731 => (if t719 = 0 then (if t722 = 0 then (if t724 = 0 then (if t726 = 0 then (if t728 = 0 then (if bt729.2 = 0 then (merinolaw01_NumModes.j0 k t721 t723 t725 t727 bt729.1 bt731.1 (bt731.2 != 0) a0_0 a0_1) else (merinolaw01_NumModes.j0 k t721 t723 t725 t727 bt729.1 bt731.1 true a0_0 a0_1)) else (merinolaw01_NumModes.j0 k t721 t723 t725 t727 bt729.1 bt731.1 true a0_0 a0_1)) else (merinolaw01_NumModes.j0 k t721 t723 t725 t727 bt729.1 bt731.1 true a0_0 a0_1)) else (merinolaw01_NumModes.j0 k t721 t723 t725 t727 bt729.1 bt731.1 true a0_0 a0_1)) else (merinolaw01_NumModes.j0 k t721 t723 t725 t727 bt729.1 bt731.1 true a0_0 a0_1)) else (merinolaw01_NumModes.j0 k t721 t723 t725 t727 bt729.1 bt731.1 true a0_0 a0_1)))) = some r := H
    have A8 := Aside0.mk A80
    clear A80
    replace H := Option.bind_eq_some_iff.mp H
    obtain ⟨⟨t729, t730⟩, A90, H⟩ := H
    replace H : ((num_Round.f k a0_0 a0_1 4).bind fun bt731 => (if t719 = 0 then (if t722 = 0 then (if t724 = 0 then (if t726 = 0 then (if t728 = 0 then (if t730 = 0 then (merinolaw01_NumModes.j0 k t721 t723 t725 t727 t729 bt731.1 (bt731.2 != 0) a0_0 a0_1) else (merinolaw01_NumModes.j0 k t721 t723 t725 t727 t729 bt731.1 true a0_0 a0_1)) else (merinolaw01_NumModes.j0 k t721 t723 t725 t727 t729 bt731.1 true a0_0 a0_1)) else (merinolaw01_NumModes.j0 k t721 t723 t725 t727 t729 bt731.1 true a0_0 a0_1)) else (merinolaw01_NumModes.j0 k t721 t723 t725 t727 t729 bt731.1 true a0_0 a0_1)) else (merinolaw01_NumModes.j0 k t721 t723 t725 t727 t729 bt731.1 true a0_0 a0_1)) else (merinolaw01_NumModes.j0 k t721 t723 t725 t727 t729 bt731.1 true a0_0 a0_1))) = some r := H
    have A9 := Aside0.mk A90
    clear A90
    replace H := Option.bind_eq_some_iff.mp H
    obtain ⟨⟨t731, t732⟩, A100, H⟩ := H
    replace H : (if t719 = 0 then (if t722 = 0 then (if t724 = 0 then (if t726 = 0 then (if t728 = 0 then (if t730 = 0 then (merinolaw01_NumModes.j0 k t721 t723 t725 t727 t729 t731 (t732 != 0) a0_0 a0_1) else (merinolaw01_NumModes.j0 k t721 t723 t725 t727 t729 t731 true a0_0 a0_1)) else (merinolaw01_NumModes.j0 k t721 t723 t725 t727 t729 t731 true a0_0 a0_1)) else (merinolaw01_NumModes.j0 k t721 t723 t725 t727 t729 t731 true a0_0 a0_1)) else (merinolaw01_NumModes.j0 k t721 t723 t725 t727 t729 t731 true a0_0 a0_1)) else (merinolaw01_NumModes.j0 k t721 t723 t725 t727 t729 t731 true a0_0 a0_1)) else (merinolaw01_NumModes.j0 k t721 t723 t725 t727 t729 t731 true a0_0 a0_1)) = some r := H
    have A10 := Aside0.mk A100
    clear A100
    have HC11 := Aside0.mk H
    clear H
    go_enter Tryd.func9, Tryd.ntmps9
    go_upto_region 11 with (first | ((with_reducible refine gate_dst (N := 1) rfl ?_); refine box_event ?hg (N := 1) ?hd (cs := #[.int .i64 a0_0, .int .i64 a0_1]) (t := 23) ?hr ?_; (case hd => rfl); (case hg => rfl); (case hr => first | (go_simp; done) | (go_simp; rfl)); intro gb712 hg w12 hbox hb; have n0_ := Aside0.mk (below_step (by repeat (first | (with_reducible first | exact HB.out | apply below_alloc | apply pw_below_drewN | apply below_drew1) | exact HB.out)) hb); have n1_ := Aside0.mk (hbox); have n2_ := Aside0.mk ((by rw [hg]; exact (below_size (by repeat (first | (with_reducible first | exact HB.out | apply below_alloc | apply pw_below_drewN | apply below_drew1) | exact HB.out))) : w.heap.size ≤ gb712)); have n3_ := Aside0.mk ((by rw [hg]; exact (below_size (by repeat (first | (with_reducible first | exact HB.out | apply below_alloc | apply pw_below_drewN | apply below_drew1) | exact HB.out))) : w.heap.size ≤ gb712)); clear HB; have HB := n0_; have BK712 := n1_; have GW712 := n2_; have GE712 := n3_; clear n0_ n1_ n2_ n3_; clear hb hbox hg; have hcz13_0 : w12.cell? ⟨gb712, 0, none⟩ = some (.int .i64 a0_0) := (blk_cell BK712.out 0).trans rfl; have hcz13_1 : w12.cell? ⟨gb712, 1, none⟩ = some (.int .i64 a0_1) := (blk_cell BK712.out 1).trans rfl; have hfz13_0 := blk_frozen BK712.out 0; have hfz13_1 := blk_frozen BK712.out 1) | ((with_reducible refine gate_callee (f := 26) rfl ?_); refine goesL_ (some 20) rfl rfl Tryd.func26 (by kernel_rfl) rfl #[.agg #[.int .i64 a0_0, .int .i64 a0_1]] rfl (by (try simp only [List.map_toArray, List.map_cons, List.map_nil]); first | done | rfl | (simp only [List.length_drop, List.length_take]; rfl)) ?_; (with_reducible refine (num_Valid.calls k a0_0 a0_1 true _ A2.out).mono ?_); rintro e w14 ⟨rfl, hb⟩; refine ⟨_, rfl, ?_⟩; have n0_ := Aside0.mk (blk_below (g := gb712) (o := .cells #[.int .i64 a0_0, .int .i64 a0_1] 23 (0, 0)) (by (with_reducible repeat (first | refine blk_drewN ?_ _ | refine blk_drew ?_ | refine blk_alloc ?_ _)); exact BK712.out) hb); have n1_ := Aside0.mk (below_step (by repeat (first | (with_reducible first | exact HB.out | apply below_alloc | apply pw_below_drewN | apply below_drew1 | refine below_set ?_ GE712.out) | exact HB.out)) hb); clear BK712; clear HB; have BK712 := n0_; have HB := n1_; clear n0_ n1_; (try clear hb); (try clear hb2); (try clear hk); (try clear hi); have hcz15_0 : w14.cell? ⟨gb712, 0, none⟩ = some (.int .i64 a0_0) := (blk_cell BK712.out 0).trans rfl; have hcz15_1 : w14.cell? ⟨gb712, 1, none⟩ = some (.int .i64 a0_1) := (blk_cell BK712.out 1).trans rfl; have hfz15_0 := blk_frozen BK712.out 0; have hfz15_1 := blk_frozen BK712.out 1) | ((with_reducible refine gate_callee (f := 44) rfl ?_); refine goesL_ (some 34) rfl rfl Tryd.func44 (by kernel_rfl) rfl #[.agg #[.int .i64 a0_0, .int .i64 a0_1]] rfl (by (try simp only [List.map_toArray, List.map_cons, List.map_nil]); first | done | rfl | (simp only [List.length_drop, List.length_take]; rfl)) ?_; (with_reducible refine (num_Neg.calls k a0_0 a0_1 t717 t718 t719 _ A4.out).mono ?_); rintro e w16 ⟨rfl, hb⟩; refine ⟨_, rfl, ?_⟩; have n0_ := Aside0.mk (blk_below (g := gb712) (o := .cells #[.int .i64 a0_0, .int .i64 a0_1] 23 (0, 0)) (by (with_reducible repeat (first | refine blk_drewN ?_ _ | refine blk_drew ?_ | refine blk_alloc ?_ _)); exact BK712.out) hb); have n1_ := Aside0.mk (below_step (by repeat (first | (with_reducible first | exact HB.out | apply below_alloc | apply pw_below_drewN | apply below_drew1 | refine below_set ?_ GE712.out) | exact HB.out)) hb); clear BK712; clear HB; have BK712 := n0_; have HB := n1_; clear n0_ n1_; (try clear hb); (try clear hb2); (try clear hk); (try clear hi)) | ((with_reducible refine gate_dst (N := 5) rfl ?_); refine box_event ?hg (N := 5) ?hd (cs := #[.int .i64 0, .int .i64 0]) (t := 23) ?hr ?_; (case hd => rfl); (case hg => rfl); (case hr => first | (go_simp; done) | (go_simp; rfl)); intro gb720 hg w17 hbox hb; have n0_ := Aside0.mk (blk_below (g := gb712) (o := .cells #[.int .i64 a0_0, .int .i64 a0_1] 23 (0, 0)) (by (with_reducible repeat (first | refine blk_drewN ?_ _ | refine blk_drew ?_ | refine blk_alloc ?_ _)); exact BK712.out) hb); have n1_ := Aside0.mk (below_step (by repeat (first | (with_reducible first | exact HB.out | apply below_alloc | apply pw_below_drewN | apply below_drew1 | refine below_set ?_ GE712.out) | exact HB.out)) hb); have n2_ := Aside0.mk (hbox); have n3_ := Aside0.mk ((by rw [hg]; exact (below_size (by repeat (first | (with_reducible first | exact HB.out | apply below_alloc | apply pw_below_drewN | apply below_drew1 | refine below_set ?_ GE712.out) | exact HB.out))) : w.heap.size ≤ gb720)); have n4_ := Aside0.mk ((by rw [hg]; exact (below_size (by repeat (first | (with_reducible first | exact HB.out | apply below_alloc | apply pw_below_drewN | apply below_drew1 | refine below_set ?_ GE712.out) | exact HB.out))) : w.heap.size ≤ gb720)); have n5_ := Aside0.mk ((by rw [hg]; exact Nat.ne_of_lt (blk_lt (g := gb712) (o := .cells #[.int .i64 a0_0, .int .i64 a0_1] 23 (0, 0)) (by (with_reducible repeat (first | refine blk_drewN ?_ _ | refine blk_drew ?_ | refine blk_alloc ?_ _)); exact BK712.out)) : gb712 ≠ gb720)); have n6_ := Aside0.mk ((by rw [hg]; exact Nat.ne_of_gt (blk_lt (g := gb712) (o := .cells #[.int .i64 a0_0, .int .i64 a0_1] 23 (0, 0)) (by (with_reducible repeat (first | refine blk_drewN ?_ _ | refine blk_drew ?_ | refine blk_alloc ?_ _)); exact BK712.out)) : gb720 ≠ gb712)); clear BK712; clear HB; have BK712 := n0_; have HB := n1_; have BK720 := n2_; have GW720 := n3_; have GE720 := n4_; have NB712_720 := n5_; have NB720_712 := n6_; clear n0_ n1_ n2_ n3_ n4_ n5_ n6_; clear hb hbox hg; have hnb18 := NB720_712.out; have hnc18 := NB712_720.out; have hcz19_0 : w17.cell? ⟨gb720, 0, none⟩ = some (.int .i64 0) := (blk_cell BK720.out 0).trans rfl; have hcz19_1 : w17.cell? ⟨gb720, 1, none⟩ = some (.int .i64 0) := (blk_cell BK720.out 1).trans rfl; have hfz19_0 := blk_frozen BK720.out 0; have hfz19_1 := blk_frozen BK720.out 1; have hcz20_0 : w17.cell? ⟨gb712, 0, none⟩ = some (.int .i64 a0_0) := (blk_cell BK712.out 0).trans rfl; have hcz20_1 : w17.cell? ⟨gb712, 1, none⟩ = some (.int .i64 a0_1) := (blk_cell BK712.out 1).trans rfl; have hfz20_0 := blk_frozen BK712.out 0; have hfz20_1 := blk_frozen BK712.out 1) | ((with_reducible refine gate_callee (f := 43) rfl ?_); refine goesL_ (some 39) rfl rfl Tryd.func43 (by kernel_rfl) rfl #[.agg #[.int .i64 a0_0, .int .i64 a0_1], .int .i64 0] rfl (by (try simp only [List.map_toArray, List.map_cons, List.map_nil]); first | done | rfl | (simp only [List.length_drop, List.length_take]; rfl)) ?_; (with_reducible refine (num_Round.calls k a0_0 a0_1 0 t721 t722 _ A5.out).mono ?_); rintro e w21 ⟨rfl, hb⟩; refine ⟨_, rfl, ?_⟩; have n0_ := Aside0.mk (blk_below (g := gb712) (o := .cells #[.int .i64 a0_0, .int .i64 a0_1] 23 (0, 0)) (by (with_reducible repeat (first | refine blk_drewN ?_ _ | refine blk_drew ?_ | refine blk_alloc ?_ _)); refine blk_far ?_ NB712_720.out _; (with_reducible repeat (first | refine blk_drewN ?_ _ | refine blk_drew ?_ | refine blk_alloc ?_ _)); refine blk_far ?_ NB712_720.out _; (with_reducible repeat (first | refine blk_drewN ?_ _ | refine blk_drew ?_ | refine blk_alloc ?_ _)); exact BK712.out) hb); have n1_ := Aside0.mk (blk_below (g := gb720) (o := .cells #[.int .i64 t717, .int .i64 t718] 23 (0, 0)) (by (with_reducible repeat (first | refine blk_drewN ?_ _ | refine blk_drew ?_ | refine blk_alloc ?_ _)); refine blk_put (cs := #[.int .i64 t717, .int .i64 0]) ?_ 1 _ rfl; (with_reducible repeat (first | refine blk_drewN ?_ _ | refine blk_drew ?_ | refine blk_alloc ?_ _)); refine blk_put (cs := #[.int .i64 0, .int .i64 0]) ?_ 0 _ rfl; (with_reducible repeat (first | refine blk_drewN ?_ _ | refine blk_drew ?_ | refine blk_alloc ?_ _)); exact BK720.out) hb); have n2_ := Aside0.mk (below_step (by repeat (first | (with_reducible first | exact HB.out | apply below_alloc | apply pw_below_drewN | apply below_drew1 | refine below_set ?_ GE712.out | refine below_set ?_ GE720.out) | exact HB.out)) hb); clear BK712; clear BK720; clear HB; have BK712 := n0_; have BK720 := n1_; have HB := n2_; clear n0_ n1_ n2_; (try clear hb); (try clear hb2); (try clear hk); (try clear hi); have hcz22_0 : w21.cell? ⟨gb712, 0, none⟩ = some (.int .i64 a0_0) := (blk_cell BK712.out 0).trans rfl; have hcz22_1 : w21.cell? ⟨gb712, 1, none⟩ = some (.int .i64 a0_1) := (blk_cell BK712.out 1).trans rfl; have hfz22_0 := blk_frozen BK712.out 0; have hfz22_1 := blk_frozen BK712.out 1) | ((with_reducible refine gate_callee (f := 43) rfl ?_); refine goesL_ (some 44) rfl rfl Tryd.func43 (by kernel_rfl) rfl #[.agg #[.int .i64 a0_0, .int .i64 a0_1], .int .i64 1] rfl (by (try simp only [List.map_toArray, List.map_cons, List.map_nil]); first | done | rfl | (simp only [List.length_drop, List.length_take]; rfl)) ?_; (with_reducible refine (num_Round.calls k a0_0 a0_1 1 t723 t724 _ A6.out).mono ?_); rintro e w23 ⟨rfl, hb⟩; refine ⟨_, rfl, ?_⟩; have n0_ := Aside0.mk (blk_below (g := gb712) (o := .cells #[.int .i64 a0_0, .int .i64 a0_1] 23 (0, 0)) (by (with_reducible repeat (first | refine blk_drewN ?_ _ | refine blk_drew ?_ | refine blk_alloc ?_ _)); exact BK712.out) hb); have n1_ := Aside0.mk (blk_below (g := gb720) (o := .cells #[.int .i64 t717, .int .i64 t718] 23 (0, 0)) (by (with_reducible repeat (first | refine blk_drewN ?_ _ | refine blk_drew ?_ | refine blk_alloc ?_ _)); exact BK720.out) hb); have n2_ := Aside0.mk (below_step (by repeat (first | (with_reducible first | exact HB.out | apply below_alloc | apply pw_below_drewN | apply below_drew1 | refine below_set ?_ GE712.out | refine below_set ?_ GE720.out) | exact HB.out)) hb); clear BK712; clear BK720; clear HB; have BK712 := n0_; have BK720 := n1_; have HB := n2_; clear n0_ n1_ n2_; (try clear hb); (try clear hb2); (try clear hk); (try clear hi); have hcz24_0 : w23.cell? ⟨gb720, 0, none⟩ = some (.int .i64 t717) := (blk_cell BK720.out 0).trans rfl; have hcz24_1 : w23.cell? ⟨gb720, 1, none⟩ = some (.int .i64 t718) := (blk_cell BK720.out 1).trans rfl; have hfz24_0 := blk_frozen BK720.out 0; have hfz24_1 := blk_frozen BK720.out 1) | ((with_reducible refine gate_callee (f := 43) rfl ?_); refine goesL_ (some 49) rfl rfl Tryd.func43 (by kernel_rfl) rfl #[.agg #[.int .i64 t717, .int .i64 t718], .int .i64 0] rfl (by (try simp only [List.map_toArray, List.map_cons, List.map_nil]); first | done | rfl | (simp only [List.length_drop, List.length_take]; rfl)) ?_; (with_reducible refine (num_Round.calls k t717 t718 0 t725 t726 _ A7.out).mono ?_); rintro e w25 ⟨rfl, hb⟩; refine ⟨_, rfl, ?_⟩; have n0_ := Aside0.mk (blk_below (g := gb712) (o := .cells #[.int .i64 a0_0, .int .i64 a0_1] 23 (0, 0)) (by (with_reducible repeat (first | refine blk_drewN ?_ _ | refine blk_drew ?_ | refine blk_alloc ?_ _)); exact BK712.out) hb); have n1_ := Aside0.mk (blk_below (g := gb720) (o := .cells #[.int .i64 t717, .int .i64 t718] 23 (0, 0)) (by (with_reducible repeat (first | refine blk_drewN ?_ _ | refine blk_drew ?_ | refine blk_alloc ?_ _)); exact BK720.out) hb); have n2_ := Aside0.mk (below_step (by repeat (first | (with_reducible first | exact HB.out | apply below_alloc | apply pw_below_drewN | apply below_drew1 | refine below_set ?_ GE712.out | refine below_set ?_ GE720.out) | exact HB.out)) hb); clear BK712; clear BK720; clear HB; have BK712 := n0_; have BK720 := n1_; have HB := n2_; clear n0_ n1_ n2_; (try clear hb); (try clear hb2); (try clear hk); (try clear hi); have hcz26_0 : w25.cell? ⟨gb712, 0, none⟩ = some (.int .i64 a0_0) := (blk_cell BK712.out 0).trans rfl; have hcz26_1 : w25.cell? ⟨gb712, 1, none⟩ = some (.int .i64 a0_1) := (blk_cell BK712.out 1).trans rfl; have hfz26_0 := blk_frozen BK712.out 0; have hfz26_1 := blk_frozen BK712.out 1) | ((with_reducible refine gate_callee (f := 43) rfl ?_); refine goesL_ (some 54) rfl rfl Tryd.func43 (by kernel_rfl) rfl #[.agg #[.int .i64 a0_0, .int .i64 a0_1], .int .i64 2] rfl (by (try simp only [List.map_toArray, List.map_cons, List.map_nil]); first | done | rfl | (simp only [List.length_drop, List.length_take]; rfl)) ?_; (with_reducible refine (num_Round.calls k a0_0 a0_1 2 t727 t728 _ A8.out).mono ?_); rintro e w27 ⟨rfl, hb⟩; refine ⟨_, rfl, ?_⟩; have n0_ := Aside0.mk (blk_below (g := gb712) (o := .cells #[.int .i64 a0_0, .int .i64 a0_1] 23 (0, 0)) (by (with_reducible repeat (first | refine blk_drewN ?_ _ | refine blk_drew ?_ | refine blk_alloc ?_ _)); exact BK712.out) hb); have n1_ := Aside0.mk (blk_below (g := gb720) (o := .cells #[.int .i64 t717, .int .i64 t718] 23 (0, 0)) (by (with_reducible repeat (first | refine blk_drewN ?_ _ | refine blk_drew ?_ | refine blk_alloc ?_ _)); exact BK720.out) hb); have n2_ := Aside0.mk (below_step (by repeat (first | (with_reducible first | exact HB.out | apply below_alloc | apply pw_below_drewN | apply below_drew1 | refine below_set ?_ GE712.out | refine below_set ?_ GE720.out) | exact HB.out)) hb); clear BK712; clear BK720; clear HB; have BK712 := n0_; have BK720 := n1_; have HB := n2_; clear n0_ n1_ n2_; (try clear hb); (try clear hb2); (try clear hk); (try clear hi); have hcz28_0 : w27.cell? ⟨gb712, 0, none⟩ = some (.int .i64 a0_0) := (blk_cell BK712.out 0).trans rfl; have hcz28_1 : w27.cell? ⟨gb712, 1, none⟩ = some (.int .i64 a0_1) := (blk_cell BK712.out 1).trans rfl; have hfz28_0 := blk_frozen BK712.out 0; have hfz28_1 := blk_frozen BK712.out 1) | ((with_reducible refine gate_callee (f := 43) rfl ?_); refine goesL_ (some 59) rfl rfl Tryd.func43 (by kernel_rfl) rfl #[.agg #[.int .i64 a0_0, .int .i64 a0_1], .int .i64 3] rfl (by (try simp only [List.map_toArray, List.map_cons, List.map_nil]); first | done | rfl | (simp only [List.length_drop, List.length_take]; rfl)) ?_; (with_reducible refine (num_Round.calls k a0_0 a0_1 3 t729 t730 _ A9.out).mono ?_); rintro e w29 ⟨rfl, hb⟩; refine ⟨_, rfl, ?_⟩; have n0_ := Aside0.mk (blk_below (g := gb712) (o := .cells #[.int .i64 a0_0, .int .i64 a0_1] 23 (0, 0)) (by (with_reducible repeat (first | refine blk_drewN ?_ _ | refine blk_drew ?_ | refine blk_alloc ?_ _)); exact BK712.out) hb); have n1_ := Aside0.mk (blk_below (g := gb720) (o := .cells #[.int .i64 t717, .int .i64 t718] 23 (0, 0)) (by (with_reducible repeat (first | refine blk_drewN ?_ _ | refine blk_drew ?_ | refine blk_alloc ?_ _)); exact BK720.out) hb); have n2_ := Aside0.mk (below_step (by repeat (first | (with_reducible first | exact HB.out | apply below_alloc | apply pw_below_drewN | apply below_drew1 | refine below_set ?_ GE712.out | refine below_set ?_ GE720.out) | exact HB.out)) hb); clear BK712; clear BK720; clear HB; have BK712 := n0_; have BK720 := n1_; have HB := n2_; clear n0_ n1_ n2_; (try clear hb); (try clear hb2); (try clear hk); (try clear hi); have hcz30_0 : w29.cell? ⟨gb712, 0, none⟩ = some (.int .i64 a0_0) := (blk_cell BK712.out 0).trans rfl; have hcz30_1 : w29.cell? ⟨gb712, 1, none⟩ = some (.int .i64 a0_1) := (blk_cell BK712.out 1).trans rfl; have hfz30_0 := blk_frozen BK712.out 0; have hfz30_1 := blk_frozen BK712.out 1) | ((with_reducible refine gate_callee (f := 43) rfl ?_); refine goesL_ (some 64) rfl rfl Tryd.func43 (by kernel_rfl) rfl #[.agg #[.int .i64 a0_0, .int .i64 a0_1], .int .i64 4] rfl (by (try simp only [List.map_toArray, List.map_cons, List.map_nil]); first | done | rfl | (simp only [List.length_drop, List.length_take]; rfl)) ?_; (with_reducible refine (num_Round.calls k a0_0 a0_1 4 t731 t732 _ A10.out).mono ?_); rintro e w31 ⟨rfl, hb⟩; refine ⟨_, rfl, ?_⟩; have n0_ := Aside0.mk (blk_below (g := gb712) (o := .cells #[.int .i64 a0_0, .int .i64 a0_1] 23 (0, 0)) (by (with_reducible repeat (first | refine blk_drewN ?_ _ | refine blk_drew ?_ | refine blk_alloc ?_ _)); exact BK712.out) hb); have n1_ := Aside0.mk (blk_below (g := gb720) (o := .cells #[.int .i64 t717, .int .i64 t718] 23 (0, 0)) (by (with_reducible repeat (first | refine blk_drewN ?_ _ | refine blk_drew ?_ | refine blk_alloc ?_ _)); exact BK720.out) hb); have n2_ := Aside0.mk (below_step (by repeat (first | (with_reducible first | exact HB.out | apply below_alloc | apply pw_below_drewN | apply below_drew1 | refine below_set ?_ GE712.out | refine below_set ?_ GE720.out) | exact HB.out)) hb); clear BK712; clear BK720; clear HB; have BK712 := n0_; have BK720 := n1_; have HB := n2_; clear n0_ n1_ n2_; (try clear hb); (try clear hb2); (try clear hk); (try clear hi)))
    (try simp only [Act.put, List.setIfInBounds_toArray, List.set_cons_zero, List.set_cons_succ])
    go_cut [92] (fun v92 wc => ∃ (kq : Nat) (x92_10 : Bool), v92 = .bool x92_10 ∧ Aside0 (merinolaw01_NumModes.j0 kq t721 t723 t725 t727 t729 t731 x92_10 a0_0 a0_1 = some r) ∧ Aside0 (kq ≤ k) ∧ Aside0 (wc.heap[gb712]? = some (.cells #[.int .i64 a0_0, .int .i64 a0_1] 23 (0, 0))) ∧ Aside0 (wc.heap[gb720]? = some (.cells #[.int .i64 t717, .int .i64 t718] 23 (0, 0))) ∧ Aside0 (Below w.heap.size w wc))
    case first =>
      have H := HC11.out
      clear HC11
      by_cases c32 : t719 = 0
      · as_aux_lemma =>
        rw [if_pos c32] at H
        have c32b0 : (t719 == 0) = true := beq_iff_eq.mpr c32
        have c32b1 : (t719 != 0) = false := bne_eq_false_iff_eq.mpr c32
        clear c32
        (first | rw [c32b0] | (simp only [i64_w, i32_w]; rw [c32b0]) | skip)
        by_cases c33 : t722 = 0
        · as_aux_lemma =>
          rw [if_pos c33] at H
          have c33b0 : (t722 == 0) = true := beq_iff_eq.mpr c33
          have c33b1 : (t722 != 0) = false := bne_eq_false_iff_eq.mpr c33
          clear c33
          by_cases c34 : t724 = 0
          · as_aux_lemma =>
            rw [if_pos c34] at H
            have c34b0 : (t724 == 0) = true := beq_iff_eq.mpr c34
            have c34b1 : (t724 != 0) = false := bne_eq_false_iff_eq.mpr c34
            clear c34
            by_cases c35 : t726 = 0
            · as_aux_lemma =>
              rw [if_pos c35] at H
              have c35b0 : (t726 == 0) = true := beq_iff_eq.mpr c35
              have c35b1 : (t726 != 0) = false := bne_eq_false_iff_eq.mpr c35
              clear c35
              by_cases c36 : t728 = 0
              · as_aux_lemma =>
                rw [if_pos c36] at H
                have c36b0 : (t728 == 0) = true := beq_iff_eq.mpr c36
                have c36b1 : (t728 != 0) = false := bne_eq_false_iff_eq.mpr c36
                clear c36
                by_cases c37 : t730 = 0
                · as_aux_lemma =>
                  rw [if_pos c37] at H
                  have c37b0 : (t730 == 0) = true := beq_iff_eq.mpr c37
                  have c37b1 : (t730 != 0) = false := bne_eq_false_iff_eq.mpr c37
                  clear c37
                  have H' := Aside0.mk H
                  clear H
                  go_wp2
                  go_meet
                  case rel => exact ⟨_, ((t732 != 0)), (by first | rfl | (simp; done) | (simp [*]; done)), H', ⟨by first | omega | exact Nat.le_refl _⟩, ⟨by (with_reducible repeat (first | refine blk_drewN ?_ _ | refine blk_drew ?_ | refine blk_alloc ?_ _)); exact BK712.out⟩, ⟨by (with_reducible repeat (first | refine blk_drewN ?_ _ | refine blk_drew ?_ | refine blk_alloc ?_ _)); exact BK720.out⟩, ⟨by repeat (first | (with_reducible first | exact HB.out | apply below_alloc | apply pw_below_drewN | apply below_drew1 | refine below_set ?_ GE712.out | refine below_set ?_ GE720.out) | exact HB.out)⟩⟩
                · as_aux_lemma =>
                  rw [if_neg c37] at H
                  have c37b0 : (t730 == 0) = false := beq_eq_false_iff_ne.mpr c37
                  have c37b1 : (t730 != 0) = true := bne_iff_ne.mpr c37
                  have H' := Aside0.mk H
                  clear H
                  go_wp2
                  go_meet
                  case rel => exact ⟨_, (true), (by first | rfl | (simp; done) | (simp [*]; done)), H', ⟨by first | omega | exact Nat.le_refl _⟩, ⟨by (with_reducible repeat (first | refine blk_drewN ?_ _ | refine blk_drew ?_ | refine blk_alloc ?_ _)); exact BK712.out⟩, ⟨by (with_reducible repeat (first | refine blk_drewN ?_ _ | refine blk_drew ?_ | refine blk_alloc ?_ _)); exact BK720.out⟩, ⟨by repeat (first | (with_reducible first | exact HB.out | apply below_alloc | apply pw_below_drewN | apply below_drew1 | refine below_set ?_ GE712.out | refine below_set ?_ GE720.out) | exact HB.out)⟩⟩
              · as_aux_lemma =>
                rw [if_neg c36] at H
                have c36b0 : (t728 == 0) = false := beq_eq_false_iff_ne.mpr c36
                have c36b1 : (t728 != 0) = true := bne_iff_ne.mpr c36
                have H' := Aside0.mk H
                clear H
                go_wp2
                go_meet
                case rel => exact ⟨_, (true), (by first | rfl | (simp; done) | (simp [*]; done)), H', ⟨by first | omega | exact Nat.le_refl _⟩, ⟨by (with_reducible repeat (first | refine blk_drewN ?_ _ | refine blk_drew ?_ | refine blk_alloc ?_ _)); exact BK712.out⟩, ⟨by (with_reducible repeat (first | refine blk_drewN ?_ _ | refine blk_drew ?_ | refine blk_alloc ?_ _)); exact BK720.out⟩, ⟨by repeat (first | (with_reducible first | exact HB.out | apply below_alloc | apply pw_below_drewN | apply below_drew1 | refine below_set ?_ GE712.out | refine below_set ?_ GE720.out) | exact HB.out)⟩⟩
            · as_aux_lemma =>
              rw [if_neg c35] at H
              have c35b0 : (t726 == 0) = false := beq_eq_false_iff_ne.mpr c35
              have c35b1 : (t726 != 0) = true := bne_iff_ne.mpr c35
              have H' := Aside0.mk H
              clear H
              go_wp2
              go_meet
              case rel => exact ⟨_, (true), (by first | rfl | (simp; done) | (simp [*]; done)), H', ⟨by first | omega | exact Nat.le_refl _⟩, ⟨by (with_reducible repeat (first | refine blk_drewN ?_ _ | refine blk_drew ?_ | refine blk_alloc ?_ _)); exact BK712.out⟩, ⟨by (with_reducible repeat (first | refine blk_drewN ?_ _ | refine blk_drew ?_ | refine blk_alloc ?_ _)); exact BK720.out⟩, ⟨by repeat (first | (with_reducible first | exact HB.out | apply below_alloc | apply pw_below_drewN | apply below_drew1 | refine below_set ?_ GE712.out | refine below_set ?_ GE720.out) | exact HB.out)⟩⟩
          · as_aux_lemma =>
            rw [if_neg c34] at H
            have c34b0 : (t724 == 0) = false := beq_eq_false_iff_ne.mpr c34
            have c34b1 : (t724 != 0) = true := bne_iff_ne.mpr c34
            have H' := Aside0.mk H
            clear H
            go_wp2
            go_meet
            case rel => exact ⟨_, (true), (by first | rfl | (simp; done) | (simp [*]; done)), H', ⟨by first | omega | exact Nat.le_refl _⟩, ⟨by (with_reducible repeat (first | refine blk_drewN ?_ _ | refine blk_drew ?_ | refine blk_alloc ?_ _)); exact BK712.out⟩, ⟨by (with_reducible repeat (first | refine blk_drewN ?_ _ | refine blk_drew ?_ | refine blk_alloc ?_ _)); exact BK720.out⟩, ⟨by repeat (first | (with_reducible first | exact HB.out | apply below_alloc | apply pw_below_drewN | apply below_drew1 | refine below_set ?_ GE712.out | refine below_set ?_ GE720.out) | exact HB.out)⟩⟩
        · as_aux_lemma =>
          rw [if_neg c33] at H
          have c33b0 : (t722 == 0) = false := beq_eq_false_iff_ne.mpr c33
          have c33b1 : (t722 != 0) = true := bne_iff_ne.mpr c33
          have H' := Aside0.mk H
          clear H
          go_wp2
          go_meet
          case rel => exact ⟨_, (true), (by first | rfl | (simp; done) | (simp [*]; done)), H', ⟨by first | omega | exact Nat.le_refl _⟩, ⟨by (with_reducible repeat (first | refine blk_drewN ?_ _ | refine blk_drew ?_ | refine blk_alloc ?_ _)); exact BK712.out⟩, ⟨by (with_reducible repeat (first | refine blk_drewN ?_ _ | refine blk_drew ?_ | refine blk_alloc ?_ _)); exact BK720.out⟩, ⟨by repeat (first | (with_reducible first | exact HB.out | apply below_alloc | apply pw_below_drewN | apply below_drew1 | refine below_set ?_ GE712.out | refine below_set ?_ GE720.out) | exact HB.out)⟩⟩
      · as_aux_lemma =>
        rw [if_neg c32] at H
        have c32b0 : (t719 == 0) = false := beq_eq_false_iff_ne.mpr c32
        have c32b1 : (t719 != 0) = true := bne_iff_ne.mpr c32
        (first | rw [c32b0] | (simp only [i64_w, i32_w]; rw [c32b0]) | skip)
        have H' := Aside0.mk H
        clear H
        go_wp2
        go_meet
        case rel => exact ⟨_, (true), (by first | rfl | (simp; done) | (simp [*]; done)), H', ⟨by first | omega | exact Nat.le_refl _⟩, ⟨by (with_reducible repeat (first | refine blk_drewN ?_ _ | refine blk_drew ?_ | refine blk_alloc ?_ _)); exact BK712.out⟩, ⟨by (with_reducible repeat (first | refine blk_drewN ?_ _ | refine blk_drew ?_ | refine blk_alloc ?_ _)); exact BK720.out⟩, ⟨by repeat (first | (with_reducible first | exact HB.out | apply below_alloc | apply pw_below_drewN | apply below_drew1 | refine below_set ?_ GE712.out | refine below_set ?_ GE720.out) | exact HB.out)⟩⟩
    case rest =>
      clear HC11
      try clear c1
      try clear c2
      try clear p2
      try clear c3
      try clear c4
      try clear c9
      try clear c18
      try clear c26
      try clear c32
      try clear c32b0
      try clear c32b1
      try clear c33
      try clear c33b0
      try clear c33b1
      try clear c34
      try clear c34b0
      try clear c34b1
      try clear c35
      try clear c35b0
      try clear c35b1
      try clear c36
      try clear c36b0
      try clear c36b1
      try clear c37
      try clear c37b0
      try clear c37b1
      try clear hcz13_0
      try clear hcz13_1
      try clear hcz15_0
      try clear hcz15_1
      try clear hcz19_0
      try clear hcz19_1
      try clear hcz20_0
      try clear hcz20_1
      try clear hcz22_0
      try clear hcz22_1
      try clear hcz24_0
      try clear hcz24_1
      try clear hcz26_0
      try clear hcz26_1
      try clear hcz28_0
      try clear hcz28_1
      try clear hcz30_0
      try clear hcz30_1
      try clear hfz13_0
      try clear hfz13_1
      try clear hfz15_0
      try clear hfz15_1
      try clear hfz19_0
      try clear hfz19_1
      try clear hfz20_0
      try clear hfz20_1
      try clear hfz22_0
      try clear hfz22_1
      try clear hfz24_0
      try clear hfz24_1
      try clear hfz26_0
      try clear hfz26_1
      try clear hfz28_0
      try clear hfz28_1
      try clear hfz30_0
      try clear hfz30_1
      obtain ⟨kq, x92_10, rfl, HA, HJ10, BK712, BK720, HB⟩ := hcut
      cases kq with
      | zero => exact absurd HA.out (by simp [merinolaw01_NumModes.j0])
      | succ kj10 =>
        have H := HA.out
        clear HA
        simp only [merinolaw01_NumModes.j0] at H
        by_cases c38 : x92_10 = true
        · as_aux_lemma =>
          subst c38
          have H1 : (some false) = some r := by rw [if_pos rfl] at H; exact H
          clear H
          have H := H1
          clear H1
          obtain rfl := Option.some.inj H
          go_wp2
          go_ret
          exact ⟨by first | rfl | (simp [errW_none, errW_some] <;> rfl) | (simp [*, errW_none, errW_some] <;> rfl), by repeat (first | (with_reducible first | exact HB.out | apply below_alloc | apply pw_below_drewN | apply below_drew1 | refine below_set ?_ GE712.out | refine below_set ?_ GE720.out) | exact HB.out)⟩
        · as_aux_lemma =>
          replace c38 := Bool.eq_false_iff.mpr c38
          subst c38
          have H1 : (if t723 = (wrap64 (-t725)) then (if (((wrap64 (t723 - t721)) == 0) != (a0_1 == 1)) = true then (merinolaw01_NumModes.j1 kj10 t721 t723 t729 t731 true a0_0 a0_1) else (if (wrap64 (t723 - t721)) < 0 then (merinolaw01_NumModes.j1 kj10 t721 t723 t729 t731 true a0_0 a0_1) else (if (wrap64 (t723 - t721)) > 1 then (merinolaw01_NumModes.j1 kj10 t721 t723 t729 t731 true a0_0 a0_1) else (if t727 = t721 then (if t727 = t723 then (merinolaw01_NumModes.j1 kj10 t721 t723 t729 t731 false a0_0 a0_1) else (merinolaw01_NumModes.j1 kj10 t721 t723 t729 t731 (decide (a0_0 < 0)) a0_0 a0_1)) else (if a0_0 ≥ 0 then (merinolaw01_NumModes.j1 kj10 t721 t723 t729 t731 true a0_0 a0_1) else (if t727 = t723 then (merinolaw01_NumModes.j1 kj10 t721 t723 t729 t731 false a0_0 a0_1) else (merinolaw01_NumModes.j1 kj10 t721 t723 t729 t731 (decide (a0_0 < 0)) a0_0 a0_1))))))) else (merinolaw01_NumModes.j1 kj10 t721 t723 t729 t731 true a0_0 a0_1)) = some r := by rw [if_neg (show ¬ (false = true) by decide)] at H; exact H
          clear H
          have H := H1
          clear H1
          have HC39 := Aside0.mk H
          clear H
          go_upto_region 13 with (fail)
          go_cut [138] (fun v138 wc => ∃ (kq : Nat) (x138_38 : Bool), v138 = .bool x138_38 ∧ Aside0 (merinolaw01_NumModes.j1 kq t721 t723 t729 t731 x138_38 a0_0 a0_1 = some r) ∧ Aside0 (kq ≤ kj10) ∧ Aside0 (wc.heap[gb712]? = some (.cells #[.int .i64 a0_0, .int .i64 a0_1] 23 (0, 0))) ∧ Aside0 (wc.heap[gb720]? = some (.cells #[.int .i64 t717, .int .i64 t718] 23 (0, 0))) ∧ Aside0 (Below w.heap.size w wc))
          case first =>
            have H := HC39.out
            clear HC39
            by_cases c40 : t723 = (wrap64 (-t725))
            · as_aux_lemma =>
              rw [if_pos c40] at H
              have c40b0 : (t723 == (wrap64 (-t725))) = true := beq_iff_eq.mpr c40
              have c40b1 : (t723 != (wrap64 (-t725))) = false := bne_eq_false_iff_eq.mpr c40
              clear c40
              (first | rw [c40b0] | (simp only [i64_w, i32_w]; rw [c40b0]) | skip)
              by_cases c41 : (((wrap64 (t723 - t721)) == 0) != (a0_1 == 1)) = true
              · as_aux_lemma =>
                rw [if_pos c41] at H
                have c41b0 : (((wrap64 (t723 - t721)) == 0) != (a0_1 == 1)) = true := c41
                (try (have c41b1 : decide (((wrap64 (t723 - t721)) == 0) = (a0_1 == 1)) = false := by simpa using c41))
                (try (have c41b2 : (((wrap64 (t723 - t721)) == 0) == (a0_1 == 1)) = false := by simpa using c41))
                (try (have c41b3 : ¬ (((wrap64 (t723 - t721)) == 0) = (a0_1 == 1)) := by simpa using c41))
                clear c41
                have H' := Aside0.mk H
                clear H
                have hnb42 := NB712_720.out
                have hnc42 := NB720_712.out
                have hcz43_0 : wc.cell? ⟨gb712, 0, none⟩ = some (.int .i64 a0_0) := (blk_cell BK712.out 0).trans rfl
                have hcz43_1 : wc.cell? ⟨gb712, 1, none⟩ = some (.int .i64 a0_1) := (blk_cell BK712.out 1).trans rfl
                have hfz43_0 := blk_frozen BK712.out 0
                have hfz43_1 := blk_frozen BK712.out 1
                go_wp2
                go_meet
                case rel => exact ⟨_, (true), (by first | rfl | (simp; done) | (simp [*]; done)), H', ⟨by have := HJ10.out; first | omega | exact Nat.le_refl _⟩, ⟨by (with_reducible repeat (first | refine blk_drewN ?_ _ | refine blk_drew ?_ | refine blk_alloc ?_ _)); exact BK712.out⟩, ⟨by (with_reducible repeat (first | refine blk_drewN ?_ _ | refine blk_drew ?_ | refine blk_alloc ?_ _)); exact BK720.out⟩, ⟨by repeat (first | (with_reducible first | exact HB.out | apply below_alloc | apply pw_below_drewN | apply below_drew1 | refine below_set ?_ GE712.out | refine below_set ?_ GE720.out) | exact HB.out)⟩⟩
              · as_aux_lemma =>
                rw [if_neg c41] at H
                have c41b0 : (((wrap64 (t723 - t721)) == 0) != (a0_1 == 1)) = false := by simpa using c41
                (try (have c41b1 : decide (((wrap64 (t723 - t721)) == 0) = (a0_1 == 1)) = true := by simpa using c41))
                (try (have c41b2 : (((wrap64 (t723 - t721)) == 0) == (a0_1 == 1)) = true := by simpa using c41))
                clear c41
                by_cases c44 : (wrap64 (t723 - t721)) < 0
                · as_aux_lemma =>
                  rw [if_pos c44] at H
                  have c44b0 : decide ((wrap64 (t723 - t721)) < 0) = true := decide_eq_true c44
                  clear c44
                  have H' := Aside0.mk H
                  clear H
                  have hnb45 := NB712_720.out
                  have hnc45 := NB720_712.out
                  have hcz46_0 : wc.cell? ⟨gb712, 0, none⟩ = some (.int .i64 a0_0) := (blk_cell BK712.out 0).trans rfl
                  have hcz46_1 : wc.cell? ⟨gb712, 1, none⟩ = some (.int .i64 a0_1) := (blk_cell BK712.out 1).trans rfl
                  have hfz46_0 := blk_frozen BK712.out 0
                  have hfz46_1 := blk_frozen BK712.out 1
                  go_wp2
                  go_meet
                  case rel => exact ⟨_, (true), (by first | rfl | (simp; done) | (simp [*]; done)), H', ⟨by have := HJ10.out; first | omega | exact Nat.le_refl _⟩, ⟨by (with_reducible repeat (first | refine blk_drewN ?_ _ | refine blk_drew ?_ | refine blk_alloc ?_ _)); exact BK712.out⟩, ⟨by (with_reducible repeat (first | refine blk_drewN ?_ _ | refine blk_drew ?_ | refine blk_alloc ?_ _)); exact BK720.out⟩, ⟨by repeat (first | (with_reducible first | exact HB.out | apply below_alloc | apply pw_below_drewN | apply below_drew1 | refine below_set ?_ GE712.out | refine below_set ?_ GE720.out) | exact HB.out)⟩⟩
                · as_aux_lemma =>
                  rw [if_neg c44] at H
                  have c44b0 : decide ((wrap64 (t723 - t721)) < 0) = false := decide_eq_false c44
                  clear c44
                  by_cases c47 : (wrap64 (t723 - t721)) > 1
                  · as_aux_lemma =>
                    rw [if_pos c47] at H
                    have c47b0 : decide (1 < (wrap64 (t723 - t721))) = true := decide_eq_true c47
                    clear c47
                    have H' := Aside0.mk H
                    clear H
                    have hnb48 := NB712_720.out
                    have hnc48 := NB720_712.out
                    have hcz49_0 : wc.cell? ⟨gb712, 0, none⟩ = some (.int .i64 a0_0) := (blk_cell BK712.out 0).trans rfl
                    have hcz49_1 : wc.cell? ⟨gb712, 1, none⟩ = some (.int .i64 a0_1) := (blk_cell BK712.out 1).trans rfl
                    have hfz49_0 := blk_frozen BK712.out 0
                    have hfz49_1 := blk_frozen BK712.out 1
                    go_wp2
                    go_meet
                    case rel => exact ⟨_, (true), (by first | rfl | (simp; done) | (simp [*]; done)), H', ⟨by have := HJ10.out; first | omega | exact Nat.le_refl _⟩, ⟨by (with_reducible repeat (first | refine blk_drewN ?_ _ | refine blk_drew ?_ | refine blk_alloc ?_ _)); exact BK712.out⟩, ⟨by (with_reducible repeat (first | refine blk_drewN ?_ _ | refine blk_drew ?_ | refine blk_alloc ?_ _)); exact BK720.out⟩, ⟨by repeat (first | (with_reducible first | exact HB.out | apply below_alloc | apply pw_below_drewN | apply below_drew1 | refine below_set ?_ GE712.out | refine below_set ?_ GE720.out) | exact HB.out)⟩⟩
                  · as_aux_lemma =>
                    rw [if_neg c47] at H
                    have c47b0 : decide (1 < (wrap64 (t723 - t721))) = false := decide_eq_false c47
                    clear c47
                    by_cases c50 : t727 = t721
                    · as_aux_lemma =>
                      rw [if_pos c50] at H
                      have c50b0 : (t727 == t721) = true := beq_iff_eq.mpr c50
                      have c50b1 : (t727 != t721) = false := bne_eq_false_iff_eq.mpr c50
                      clear c50
                      by_cases c51 : t727 = t723
                      · as_aux_lemma =>
                        rw [if_pos c51] at H
                        have c51b0 : (t727 == t723) = true := beq_iff_eq.mpr c51
                        have c51b1 : (t727 != t723) = false := bne_eq_false_iff_eq.mpr c51
                        clear c51
                        have H' := Aside0.mk H
                        clear H
                        have hnb52 := NB712_720.out
                        have hnc52 := NB720_712.out
                        have hcz53_0 : wc.cell? ⟨gb712, 0, none⟩ = some (.int .i64 a0_0) := (blk_cell BK712.out 0).trans rfl
                        have hcz53_1 : wc.cell? ⟨gb712, 1, none⟩ = some (.int .i64 a0_1) := (blk_cell BK712.out 1).trans rfl
                        have hfz53_0 := blk_frozen BK712.out 0
                        have hfz53_1 := blk_frozen BK712.out 1
                        go_wp2
                        go_meet
                        case rel => exact ⟨_, (false), (by first | rfl | (simp; done) | (simp [*]; done)), H', ⟨by have := HJ10.out; first | omega | exact Nat.le_refl _⟩, ⟨by (with_reducible repeat (first | refine blk_drewN ?_ _ | refine blk_drew ?_ | refine blk_alloc ?_ _)); exact BK712.out⟩, ⟨by (with_reducible repeat (first | refine blk_drewN ?_ _ | refine blk_drew ?_ | refine blk_alloc ?_ _)); exact BK720.out⟩, ⟨by repeat (first | (with_reducible first | exact HB.out | apply below_alloc | apply pw_below_drewN | apply below_drew1 | refine below_set ?_ GE712.out | refine below_set ?_ GE720.out) | exact HB.out)⟩⟩
                      · as_aux_lemma =>
                        rw [if_neg c51] at H
                        have c51b0 : (t727 == t723) = false := beq_eq_false_iff_ne.mpr c51
                        have c51b1 : (t727 != t723) = true := bne_iff_ne.mpr c51
                        have H' := Aside0.mk H
                        clear H
                        have hnb54 := NB712_720.out
                        have hnc54 := NB720_712.out
                        have hcz55_0 : wc.cell? ⟨gb712, 0, none⟩ = some (.int .i64 a0_0) := (blk_cell BK712.out 0).trans rfl
                        have hcz55_1 : wc.cell? ⟨gb712, 1, none⟩ = some (.int .i64 a0_1) := (blk_cell BK712.out 1).trans rfl
                        have hfz55_0 := blk_frozen BK712.out 0
                        have hfz55_1 := blk_frozen BK712.out 1
                        go_wp2
                        go_meet
                        case rel => exact ⟨_, (decide (a0_0 < 0)), (by first | rfl | (simp; done) | (simp [*]; done)), H', ⟨by have := HJ10.out; first | omega | exact Nat.le_refl _⟩, ⟨by (with_reducible repeat (first | refine blk_drewN ?_ _ | refine blk_drew ?_ | refine blk_alloc ?_ _)); exact BK712.out⟩, ⟨by (with_reducible repeat (first | refine blk_drewN ?_ _ | refine blk_drew ?_ | refine blk_alloc ?_ _)); exact BK720.out⟩, ⟨by repeat (first | (with_reducible first | exact HB.out | apply below_alloc | apply pw_below_drewN | apply below_drew1 | refine below_set ?_ GE712.out | refine below_set ?_ GE720.out) | exact HB.out)⟩⟩
                    · as_aux_lemma =>
                      rw [if_neg c50] at H
                      have c50b0 : (t727 == t721) = false := beq_eq_false_iff_ne.mpr c50
                      have c50b1 : (t727 != t721) = true := bne_iff_ne.mpr c50
                      by_cases c56 : a0_0 ≥ 0
                      · as_aux_lemma =>
                        rw [if_pos c56] at H
                        have c56b0 : decide (0 ≤ a0_0) = true := decide_eq_true c56
                        clear c56
                        have H' := Aside0.mk H
                        clear H
                        have hnb57 := NB712_720.out
                        have hnc57 := NB720_712.out
                        have hcz58_0 : wc.cell? ⟨gb712, 0, none⟩ = some (.int .i64 a0_0) := (blk_cell BK712.out 0).trans rfl
                        have hcz58_1 : wc.cell? ⟨gb712, 1, none⟩ = some (.int .i64 a0_1) := (blk_cell BK712.out 1).trans rfl
                        have hfz58_0 := blk_frozen BK712.out 0
                        have hfz58_1 := blk_frozen BK712.out 1
                        go_wp2
                        go_meet
                        case rel => exact ⟨_, (true), (by first | rfl | (simp; done) | (simp [*]; done)), H', ⟨by have := HJ10.out; first | omega | exact Nat.le_refl _⟩, ⟨by (with_reducible repeat (first | refine blk_drewN ?_ _ | refine blk_drew ?_ | refine blk_alloc ?_ _)); exact BK712.out⟩, ⟨by (with_reducible repeat (first | refine blk_drewN ?_ _ | refine blk_drew ?_ | refine blk_alloc ?_ _)); exact BK720.out⟩, ⟨by repeat (first | (with_reducible first | exact HB.out | apply below_alloc | apply pw_below_drewN | apply below_drew1 | refine below_set ?_ GE712.out | refine below_set ?_ GE720.out) | exact HB.out)⟩⟩
                      · as_aux_lemma =>
                        rw [if_neg c56] at H
                        have c56b0 : decide (0 ≤ a0_0) = false := decide_eq_false c56
                        clear c56
                        by_cases c59 : t727 = t723
                        · as_aux_lemma =>
                          rw [if_pos c59] at H
                          have c59b0 : (t727 == t723) = true := beq_iff_eq.mpr c59
                          have c59b1 : (t727 != t723) = false := bne_eq_false_iff_eq.mpr c59
                          clear c59
                          have H' := Aside0.mk H
                          clear H
                          have hnb60 := NB712_720.out
                          have hnc60 := NB720_712.out
                          have hcz61_0 : wc.cell? ⟨gb712, 0, none⟩ = some (.int .i64 a0_0) := (blk_cell BK712.out 0).trans rfl
                          have hcz61_1 : wc.cell? ⟨gb712, 1, none⟩ = some (.int .i64 a0_1) := (blk_cell BK712.out 1).trans rfl
                          have hfz61_0 := blk_frozen BK712.out 0
                          have hfz61_1 := blk_frozen BK712.out 1
                          go_wp2
                          go_meet
                          case rel => exact ⟨_, (false), (by first | rfl | (simp; done) | (simp [*]; done)), H', ⟨by have := HJ10.out; first | omega | exact Nat.le_refl _⟩, ⟨by (with_reducible repeat (first | refine blk_drewN ?_ _ | refine blk_drew ?_ | refine blk_alloc ?_ _)); exact BK712.out⟩, ⟨by (with_reducible repeat (first | refine blk_drewN ?_ _ | refine blk_drew ?_ | refine blk_alloc ?_ _)); exact BK720.out⟩, ⟨by repeat (first | (with_reducible first | exact HB.out | apply below_alloc | apply pw_below_drewN | apply below_drew1 | refine below_set ?_ GE712.out | refine below_set ?_ GE720.out) | exact HB.out)⟩⟩
                        · as_aux_lemma =>
                          rw [if_neg c59] at H
                          have c59b0 : (t727 == t723) = false := beq_eq_false_iff_ne.mpr c59
                          have c59b1 : (t727 != t723) = true := bne_iff_ne.mpr c59
                          have H' := Aside0.mk H
                          clear H
                          have hnb62 := NB712_720.out
                          have hnc62 := NB720_712.out
                          have hcz63_0 : wc.cell? ⟨gb712, 0, none⟩ = some (.int .i64 a0_0) := (blk_cell BK712.out 0).trans rfl
                          have hcz63_1 : wc.cell? ⟨gb712, 1, none⟩ = some (.int .i64 a0_1) := (blk_cell BK712.out 1).trans rfl
                          have hfz63_0 := blk_frozen BK712.out 0
                          have hfz63_1 := blk_frozen BK712.out 1
                          go_wp2
                          go_meet
                          case rel => exact ⟨_, (decide (a0_0 < 0)), (by first | rfl | (simp; done) | (simp [*]; done)), H', ⟨by have := HJ10.out; first | omega | exact Nat.le_refl _⟩, ⟨by (with_reducible repeat (first | refine blk_drewN ?_ _ | refine blk_drew ?_ | refine blk_alloc ?_ _)); exact BK712.out⟩, ⟨by (with_reducible repeat (first | refine blk_drewN ?_ _ | refine blk_drew ?_ | refine blk_alloc ?_ _)); exact BK720.out⟩, ⟨by repeat (first | (with_reducible first | exact HB.out | apply below_alloc | apply pw_below_drewN | apply below_drew1 | refine below_set ?_ GE712.out | refine below_set ?_ GE720.out) | exact HB.out)⟩⟩
            · as_aux_lemma =>
              rw [if_neg c40] at H
              have c40b0 : (t723 == (wrap64 (-t725))) = false := beq_eq_false_iff_ne.mpr c40
              have c40b1 : (t723 != (wrap64 (-t725))) = true := bne_iff_ne.mpr c40
              (first | rw [c40b0] | (simp only [i64_w, i32_w]; rw [c40b0]) | skip)
              have H' := Aside0.mk H
              clear H
              go_wp2
              go_meet
              case rel => exact ⟨_, (true), (by first | rfl | (simp; done) | (simp [*]; done)), H', ⟨by have := HJ10.out; first | omega | exact Nat.le_refl _⟩, ⟨by (with_reducible repeat (first | refine blk_drewN ?_ _ | refine blk_drew ?_ | refine blk_alloc ?_ _)); exact BK712.out⟩, ⟨by (with_reducible repeat (first | refine blk_drewN ?_ _ | refine blk_drew ?_ | refine blk_alloc ?_ _)); exact BK720.out⟩, ⟨by repeat (first | (with_reducible first | exact HB.out | apply below_alloc | apply pw_below_drewN | apply below_drew1 | refine below_set ?_ GE712.out | refine below_set ?_ GE720.out) | exact HB.out)⟩⟩
          case rest =>
            clear HC39
            try clear c1
            try clear c2
            try clear p2
            try clear c3
            try clear c4
            try clear c5
            try clear c6
            try clear p6
            try clear c9
            try clear c18
            try clear c26
            try clear c32
            try clear c32b0
            try clear c32b1
            try clear c33
            try clear c33b0
            try clear c33b1
            try clear c34
            try clear c34b0
            try clear c34b1
            try clear c35
            try clear c35b0
            try clear c35b1
            try clear c36
            try clear c36b0
            try clear c36b1
            try clear c37
            try clear c37b0
            try clear c37b1
            try clear c38
            try clear c40
            try clear c40b0
            try clear c40b1
            try clear c41
            try clear c41b0
            try clear c41b1
            try clear c41b2
            try clear c42
            try clear c43
            try clear c44
            try clear c44b0
            try clear c45
            try clear c47
            try clear c47b0
            try clear c48
            try clear c50
            try clear c50b0
            try clear c50b1
            try clear c51
            try clear c51b0
            try clear c51b1
            try clear c52
            try clear c54
            try clear c56
            try clear c56b0
            try clear c57
            try clear c59
            try clear c59b0
            try clear c59b1
            try clear c60
            try clear c62
            try clear hcz13_0
            try clear hcz13_1
            try clear hcz15_0
            try clear hcz15_1
            try clear hcz19_0
            try clear hcz19_1
            try clear hcz20_0
            try clear hcz20_1
            try clear hcz22_0
            try clear hcz22_1
            try clear hcz24_0
            try clear hcz24_1
            try clear hcz26_0
            try clear hcz26_1
            try clear hcz28_0
            try clear hcz28_1
            try clear hcz30_0
            try clear hcz30_1
            try clear hcz43_0
            try clear hcz43_1
            try clear hcz46_0
            try clear hcz46_1
            try clear hcz49_0
            try clear hcz49_1
            try clear hcz53_0
            try clear hcz53_1
            try clear hcz55_0
            try clear hcz55_1
            try clear hcz58_0
            try clear hcz58_1
            try clear hcz61_0
            try clear hcz61_1
            try clear hcz63_0
            try clear hcz63_1
            try clear hfz13_0
            try clear hfz13_1
            try clear hfz15_0
            try clear hfz15_1
            try clear hfz19_0
            try clear hfz19_1
            try clear hfz20_0
            try clear hfz20_1
            try clear hfz22_0
            try clear hfz22_1
            try clear hfz24_0
            try clear hfz24_1
            try clear hfz26_0
            try clear hfz26_1
            try clear hfz28_0
            try clear hfz28_1
            try clear hfz30_0
            try clear hfz30_1
            try clear hfz43_0
            try clear hfz43_1
            try clear hfz46_0
            try clear hfz46_1
            try clear hfz49_0
            try clear hfz49_1
            try clear hfz53_0
            try clear hfz53_1
            try clear hfz55_0
            try clear hfz55_1
            try clear hfz58_0
            try clear hfz58_1
            try clear hfz61_0
            try clear hfz61_1
            try clear hfz63_0
            try clear hfz63_1
            try clear p2
            obtain ⟨kq, x138_38, rfl, HA, HJ38, BK712, BK720, HB⟩ := hcut
            cases kq with
            | zero => exact absurd HA.out (by simp [merinolaw01_NumModes.j1])
            | succ kj38 =>
              have H := HA.out
              clear HA
              simp only [merinolaw01_NumModes.j1] at H
              by_cases c64 : x138_38 = true
              · as_aux_lemma =>
                subst c64
                have H1 : (some false) = some r := by rw [if_pos rfl] at H; exact H
                clear H
                have H := H1
                clear H1
                obtain rfl := Option.some.inj H
                go_wp2
                go_ret
                exact ⟨by first | rfl | (simp [errW_none, errW_some] <;> rfl) | (simp [*, errW_none, errW_some] <;> rfl), by repeat (first | (with_reducible first | exact HB.out | apply below_alloc | apply pw_below_drewN | apply below_drew1 | refine below_set ?_ GE712.out | refine below_set ?_ GE720.out) | exact HB.out)⟩
              · as_aux_lemma =>
                replace c64 := Bool.eq_false_iff.mpr c64
                subst c64
                have H1 : (if t729 = t721 then (if t731 = t721 then (if t729 = t731 then (if (Int.tmod t731 2) = 0 then (if a0_1 = 2 then (if t729 = t723 then ((merinolaw01_alive.f).bind fun t733 => (some t733)) else (some false)) else ((merinolaw01_alive.f).bind fun t734 => (some t734))) else (if a0_1 = 2 then (some false) else ((merinolaw01_alive.f).bind fun t735 => (some t735)))) else (if a0_1 = 2 then (if (Int.tmod t731 2) = 0 then (if t729 = t723 then ((merinolaw01_alive.f).bind fun t736 => (some t736)) else (some false)) else (some false)) else (some false))) else (if t731 = t723 then (if t729 = t731 then (if (Int.tmod t731 2) = 0 then (if a0_1 = 2 then (if t729 = t723 then ((merinolaw01_alive.f).bind fun t737 => (some t737)) else (some false)) else ((merinolaw01_alive.f).bind fun t738 => (some t738))) else (if a0_1 = 2 then (some false) else ((merinolaw01_alive.f).bind fun t739 => (some t739)))) else (if a0_1 = 2 then (if (Int.tmod t731 2) = 0 then (if t729 = t723 then ((merinolaw01_alive.f).bind fun t740 => (some t740)) else (some false)) else (some false)) else (some false))) else (some false))) else (if t729 = t723 then (if t731 = t721 then (if t729 = t731 then (if (Int.tmod t731 2) = 0 then (if a0_1 = 2 then ((merinolaw01_alive.f).bind fun t741 => (some t741)) else ((merinolaw01_alive.f).bind fun t742 => (some t742))) else (if a0_1 = 2 then (some false) else ((merinolaw01_alive.f).bind fun t743 => (some t743)))) else (if a0_1 = 2 then (if (Int.tmod t731 2) = 0 then ((merinolaw01_alive.f).bind fun t744 => (some t744)) else (some false)) else (some false))) else (if t731 = t723 then (if t729 = t731 then (if (Int.tmod t731 2) = 0 then (if a0_1 = 2 then ((merinolaw01_alive.f).bind fun t745 => (some t745)) else ((merinolaw01_alive.f).bind fun t746 => (some t746))) else (if a0_1 = 2 then (some false) else ((merinolaw01_alive.f).bind fun t747 => (some t747)))) else (if a0_1 = 2 then (if (Int.tmod t731 2) = 0 then ((merinolaw01_alive.f).bind fun t748 => (some t748)) else (some false)) else (some false))) else (some false))) else (some false))) = some r := by rw [if_neg (show ¬ (false = true) by decide)] at H; exact H
                clear H
                have H := H1
                clear H1
                by_cases c65 : t729 = t721
                · as_aux_lemma =>
                  rw [if_pos c65] at H
                  have c65b0 : (t729 == t721) = true := beq_iff_eq.mpr c65
                  have c65b1 : (t729 != t721) = false := bne_eq_false_iff_eq.mpr c65
                  clear c65
                  by_cases c66 : t731 = t721
                  · as_aux_lemma =>
                    rw [if_pos c66] at H
                    have c66b0 : (t731 == t721) = true := beq_iff_eq.mpr c66
                    have c66b1 : (t731 != t721) = false := bne_eq_false_iff_eq.mpr c66
                    clear c66
                    by_cases c67 : t729 = t731
                    · as_aux_lemma =>
                      rw [if_pos c67] at H
                      have c67b0 : (t729 == t731) = true := beq_iff_eq.mpr c67
                      have c67b1 : (t729 != t731) = false := bne_eq_false_iff_eq.mpr c67
                      clear c67
                      by_cases c68 : (Int.tmod t731 2) = 0
                      · as_aux_lemma =>
                        rw [if_pos c68] at H
                        have c68b0 : ((Int.tmod t731 2) == 0) = true := beq_iff_eq.mpr c68
                        have c68b1 : ((Int.tmod t731 2) != 0) = false := bne_eq_false_iff_eq.mpr c68
                        clear c68
                        by_cases c69 : a0_1 = 2
                        · as_aux_lemma =>
                          rw [if_pos c69] at H
                          have c69b0 : (a0_1 == 2) = true := beq_iff_eq.mpr c69
                          have c69b1 : (a0_1 != 2) = false := bne_eq_false_iff_eq.mpr c69
                          clear c69
                          by_cases c70 : t729 = t723
                          · as_aux_lemma =>
                            rw [if_pos c70] at H
                            have c70b0 : (t729 == t723) = true := beq_iff_eq.mpr c70
                            have c70b1 : (t729 != t723) = false := bne_eq_false_iff_eq.mpr c70
                            clear c70
                            replace H := Option.bind_eq_some_iff.mp H
                            obtain ⟨t733, A710, H⟩ := H
                            replace H : (some t733) = some r := H
                            have A71 := Aside0.mk A710
                            clear A710
                            obtain rfl := Option.some.inj H
                            have hnb72 := NB712_720.out
                            have hnc72 := NB720_712.out
                            have hcz73_0 : wc.cell? ⟨gb712, 0, none⟩ = some (.int .i64 a0_0) := (blk_cell BK712.out 0).trans rfl
                            have hcz73_1 : wc.cell? ⟨gb712, 1, none⟩ = some (.int .i64 a0_1) := (blk_cell BK712.out 1).trans rfl
                            have hfz73_0 := blk_frozen BK712.out 0
                            have hfz73_1 := blk_frozen BK712.out 1
                            go_wp2_with (first | (go_at_call 21; (with_reducible refine (merinolaw01_alive.calls  t733 _ A71.out).mono ?_); rintro e w74 ⟨rfl, hb⟩; have n0_ := Aside0.mk (blk_below (g := gb712) (o := .cells #[.int .i64 a0_0, .int .i64 a0_1] 23 (0, 0)) (by (with_reducible repeat (first | refine blk_drewN ?_ _ | refine blk_drew ?_ | refine blk_alloc ?_ _)); exact BK712.out) hb); have n1_ := Aside0.mk (blk_below (g := gb720) (o := .cells #[.int .i64 t717, .int .i64 t718] 23 (0, 0)) (by (with_reducible repeat (first | refine blk_drewN ?_ _ | refine blk_drew ?_ | refine blk_alloc ?_ _)); exact BK720.out) hb); have n2_ := Aside0.mk (below_step (by repeat (first | (with_reducible first | exact HB.out | apply below_alloc | apply pw_below_drewN | apply below_drew1 | refine below_set ?_ GE712.out | refine below_set ?_ GE720.out) | exact HB.out)) hb); clear BK712; clear BK720; clear HB; have BK712 := n0_; have BK720 := n1_; have HB := n2_; clear n0_ n1_ n2_; (try clear hb); (try clear hb2); (try clear hk); (try clear hi)))
                            go_ret
                            exact ⟨by first | rfl | (simp [errW_none, errW_some] <;> rfl) | (simp [*, errW_none, errW_some] <;> rfl), by repeat (first | (with_reducible first | exact HB.out | apply below_alloc | apply pw_below_drewN | apply below_drew1 | refine below_set ?_ GE712.out | refine below_set ?_ GE720.out) | exact HB.out)⟩
                          · as_aux_lemma =>
                            rw [if_neg c70] at H
                            have c70b0 : (t729 == t723) = false := beq_eq_false_iff_ne.mpr c70
                            have c70b1 : (t729 != t723) = true := bne_iff_ne.mpr c70
                            obtain rfl := Option.some.inj H
                            have hnb75 := NB712_720.out
                            have hnc75 := NB720_712.out
                            have hcz76_0 : wc.cell? ⟨gb712, 0, none⟩ = some (.int .i64 a0_0) := (blk_cell BK712.out 0).trans rfl
                            have hcz76_1 : wc.cell? ⟨gb712, 1, none⟩ = some (.int .i64 a0_1) := (blk_cell BK712.out 1).trans rfl
                            have hfz76_0 := blk_frozen BK712.out 0
                            have hfz76_1 := blk_frozen BK712.out 1
                            go_wp2
                            go_ret
                            exact ⟨by first | rfl | (simp [errW_none, errW_some] <;> rfl) | (simp [*, errW_none, errW_some] <;> rfl), by repeat (first | (with_reducible first | exact HB.out | apply below_alloc | apply pw_below_drewN | apply below_drew1 | refine below_set ?_ GE712.out | refine below_set ?_ GE720.out) | exact HB.out)⟩
                        · as_aux_lemma =>
                          rw [if_neg c69] at H
                          have c69b0 : (a0_1 == 2) = false := beq_eq_false_iff_ne.mpr c69
                          have c69b1 : (a0_1 != 2) = true := bne_iff_ne.mpr c69
                          replace H := Option.bind_eq_some_iff.mp H
                          obtain ⟨t734, A770, H⟩ := H
                          replace H : (some t734) = some r := H
                          have A77 := Aside0.mk A770
                          clear A770
                          obtain rfl := Option.some.inj H
                          have hnb78 := NB712_720.out
                          have hnc78 := NB720_712.out
                          have hcz79_0 : wc.cell? ⟨gb712, 0, none⟩ = some (.int .i64 a0_0) := (blk_cell BK712.out 0).trans rfl
                          have hcz79_1 : wc.cell? ⟨gb712, 1, none⟩ = some (.int .i64 a0_1) := (blk_cell BK712.out 1).trans rfl
                          have hfz79_0 := blk_frozen BK712.out 0
                          have hfz79_1 := blk_frozen BK712.out 1
                          go_wp2_with (first | (go_at_call 21; (with_reducible refine (merinolaw01_alive.calls  t734 _ A77.out).mono ?_); rintro e w80 ⟨rfl, hb⟩; have n0_ := Aside0.mk (blk_below (g := gb712) (o := .cells #[.int .i64 a0_0, .int .i64 a0_1] 23 (0, 0)) (by (with_reducible repeat (first | refine blk_drewN ?_ _ | refine blk_drew ?_ | refine blk_alloc ?_ _)); exact BK712.out) hb); have n1_ := Aside0.mk (blk_below (g := gb720) (o := .cells #[.int .i64 t717, .int .i64 t718] 23 (0, 0)) (by (with_reducible repeat (first | refine blk_drewN ?_ _ | refine blk_drew ?_ | refine blk_alloc ?_ _)); exact BK720.out) hb); have n2_ := Aside0.mk (below_step (by repeat (first | (with_reducible first | exact HB.out | apply below_alloc | apply pw_below_drewN | apply below_drew1 | refine below_set ?_ GE712.out | refine below_set ?_ GE720.out) | exact HB.out)) hb); clear BK712; clear BK720; clear HB; have BK712 := n0_; have BK720 := n1_; have HB := n2_; clear n0_ n1_ n2_; (try clear hb); (try clear hb2); (try clear hk); (try clear hi)))
                          go_ret
                          exact ⟨by first | rfl | (simp [errW_none, errW_some] <;> rfl) | (simp [*, errW_none, errW_some] <;> rfl), by repeat (first | (with_reducible first | exact HB.out | apply below_alloc | apply pw_below_drewN | apply below_drew1 | refine below_set ?_ GE712.out | refine below_set ?_ GE720.out) | exact HB.out)⟩
                      · as_aux_lemma =>
                        rw [if_neg c68] at H
                        have c68b0 : ((Int.tmod t731 2) == 0) = false := beq_eq_false_iff_ne.mpr c68
                        have c68b1 : ((Int.tmod t731 2) != 0) = true := bne_iff_ne.mpr c68
                        by_cases c81 : a0_1 = 2
                        · as_aux_lemma =>
                          rw [if_pos c81] at H
                          have c81b0 : (a0_1 == 2) = true := beq_iff_eq.mpr c81
                          have c81b1 : (a0_1 != 2) = false := bne_eq_false_iff_eq.mpr c81
                          clear c81
                          obtain rfl := Option.some.inj H
                          have hnb82 := NB712_720.out
                          have hnc82 := NB720_712.out
                          have hcz83_0 : wc.cell? ⟨gb712, 0, none⟩ = some (.int .i64 a0_0) := (blk_cell BK712.out 0).trans rfl
                          have hcz83_1 : wc.cell? ⟨gb712, 1, none⟩ = some (.int .i64 a0_1) := (blk_cell BK712.out 1).trans rfl
                          have hfz83_0 := blk_frozen BK712.out 0
                          have hfz83_1 := blk_frozen BK712.out 1
                          go_wp2
                          go_ret
                          exact ⟨by first | rfl | (simp [errW_none, errW_some] <;> rfl) | (simp [*, errW_none, errW_some] <;> rfl), by repeat (first | (with_reducible first | exact HB.out | apply below_alloc | apply pw_below_drewN | apply below_drew1 | refine below_set ?_ GE712.out | refine below_set ?_ GE720.out) | exact HB.out)⟩
                        · as_aux_lemma =>
                          rw [if_neg c81] at H
                          have c81b0 : (a0_1 == 2) = false := beq_eq_false_iff_ne.mpr c81
                          have c81b1 : (a0_1 != 2) = true := bne_iff_ne.mpr c81
                          replace H := Option.bind_eq_some_iff.mp H
                          obtain ⟨t735, A840, H⟩ := H
                          replace H : (some t735) = some r := H
                          have A84 := Aside0.mk A840
                          clear A840
                          obtain rfl := Option.some.inj H
                          have hnb85 := NB712_720.out
                          have hnc85 := NB720_712.out
                          have hcz86_0 : wc.cell? ⟨gb712, 0, none⟩ = some (.int .i64 a0_0) := (blk_cell BK712.out 0).trans rfl
                          have hcz86_1 : wc.cell? ⟨gb712, 1, none⟩ = some (.int .i64 a0_1) := (blk_cell BK712.out 1).trans rfl
                          have hfz86_0 := blk_frozen BK712.out 0
                          have hfz86_1 := blk_frozen BK712.out 1
                          go_wp2_with (first | (go_at_call 21; (with_reducible refine (merinolaw01_alive.calls  t735 _ A84.out).mono ?_); rintro e w87 ⟨rfl, hb⟩; have n0_ := Aside0.mk (blk_below (g := gb712) (o := .cells #[.int .i64 a0_0, .int .i64 a0_1] 23 (0, 0)) (by (with_reducible repeat (first | refine blk_drewN ?_ _ | refine blk_drew ?_ | refine blk_alloc ?_ _)); exact BK712.out) hb); have n1_ := Aside0.mk (blk_below (g := gb720) (o := .cells #[.int .i64 t717, .int .i64 t718] 23 (0, 0)) (by (with_reducible repeat (first | refine blk_drewN ?_ _ | refine blk_drew ?_ | refine blk_alloc ?_ _)); exact BK720.out) hb); have n2_ := Aside0.mk (below_step (by repeat (first | (with_reducible first | exact HB.out | apply below_alloc | apply pw_below_drewN | apply below_drew1 | refine below_set ?_ GE712.out | refine below_set ?_ GE720.out) | exact HB.out)) hb); clear BK712; clear BK720; clear HB; have BK712 := n0_; have BK720 := n1_; have HB := n2_; clear n0_ n1_ n2_; (try clear hb); (try clear hb2); (try clear hk); (try clear hi)))
                          go_ret
                          exact ⟨by first | rfl | (simp [errW_none, errW_some] <;> rfl) | (simp [*, errW_none, errW_some] <;> rfl), by repeat (first | (with_reducible first | exact HB.out | apply below_alloc | apply pw_below_drewN | apply below_drew1 | refine below_set ?_ GE712.out | refine below_set ?_ GE720.out) | exact HB.out)⟩
                    · as_aux_lemma =>
                      rw [if_neg c67] at H
                      have c67b0 : (t729 == t731) = false := beq_eq_false_iff_ne.mpr c67
                      have c67b1 : (t729 != t731) = true := bne_iff_ne.mpr c67
                      by_cases c88 : a0_1 = 2
                      · as_aux_lemma =>
                        rw [if_pos c88] at H
                        have c88b0 : (a0_1 == 2) = true := beq_iff_eq.mpr c88
                        have c88b1 : (a0_1 != 2) = false := bne_eq_false_iff_eq.mpr c88
                        clear c88
                        by_cases c89 : (Int.tmod t731 2) = 0
                        · as_aux_lemma =>
                          rw [if_pos c89] at H
                          have c89b0 : ((Int.tmod t731 2) == 0) = true := beq_iff_eq.mpr c89
                          have c89b1 : ((Int.tmod t731 2) != 0) = false := bne_eq_false_iff_eq.mpr c89
                          clear c89
                          by_cases c90 : t729 = t723
                          · as_aux_lemma =>
                            rw [if_pos c90] at H
                            have c90b0 : (t729 == t723) = true := beq_iff_eq.mpr c90
                            have c90b1 : (t729 != t723) = false := bne_eq_false_iff_eq.mpr c90
                            clear c90
                            replace H := Option.bind_eq_some_iff.mp H
                            obtain ⟨t736, A910, H⟩ := H
                            replace H : (some t736) = some r := H
                            have A91 := Aside0.mk A910
                            clear A910
                            obtain rfl := Option.some.inj H
                            have hnb92 := NB712_720.out
                            have hnc92 := NB720_712.out
                            have hcz93_0 : wc.cell? ⟨gb712, 0, none⟩ = some (.int .i64 a0_0) := (blk_cell BK712.out 0).trans rfl
                            have hcz93_1 : wc.cell? ⟨gb712, 1, none⟩ = some (.int .i64 a0_1) := (blk_cell BK712.out 1).trans rfl
                            have hfz93_0 := blk_frozen BK712.out 0
                            have hfz93_1 := blk_frozen BK712.out 1
                            go_wp2_with (first | (go_at_call 21; (with_reducible refine (merinolaw01_alive.calls  t736 _ A91.out).mono ?_); rintro e w94 ⟨rfl, hb⟩; have n0_ := Aside0.mk (blk_below (g := gb712) (o := .cells #[.int .i64 a0_0, .int .i64 a0_1] 23 (0, 0)) (by (with_reducible repeat (first | refine blk_drewN ?_ _ | refine blk_drew ?_ | refine blk_alloc ?_ _)); exact BK712.out) hb); have n1_ := Aside0.mk (blk_below (g := gb720) (o := .cells #[.int .i64 t717, .int .i64 t718] 23 (0, 0)) (by (with_reducible repeat (first | refine blk_drewN ?_ _ | refine blk_drew ?_ | refine blk_alloc ?_ _)); exact BK720.out) hb); have n2_ := Aside0.mk (below_step (by repeat (first | (with_reducible first | exact HB.out | apply below_alloc | apply pw_below_drewN | apply below_drew1 | refine below_set ?_ GE712.out | refine below_set ?_ GE720.out) | exact HB.out)) hb); clear BK712; clear BK720; clear HB; have BK712 := n0_; have BK720 := n1_; have HB := n2_; clear n0_ n1_ n2_; (try clear hb); (try clear hb2); (try clear hk); (try clear hi)))
                            go_ret
                            exact ⟨by first | rfl | (simp [errW_none, errW_some] <;> rfl) | (simp [*, errW_none, errW_some] <;> rfl), by repeat (first | (with_reducible first | exact HB.out | apply below_alloc | apply pw_below_drewN | apply below_drew1 | refine below_set ?_ GE712.out | refine below_set ?_ GE720.out) | exact HB.out)⟩
                          · as_aux_lemma =>
                            rw [if_neg c90] at H
                            have c90b0 : (t729 == t723) = false := beq_eq_false_iff_ne.mpr c90
                            have c90b1 : (t729 != t723) = true := bne_iff_ne.mpr c90
                            obtain rfl := Option.some.inj H
                            have hnb95 := NB712_720.out
                            have hnc95 := NB720_712.out
                            have hcz96_0 : wc.cell? ⟨gb712, 0, none⟩ = some (.int .i64 a0_0) := (blk_cell BK712.out 0).trans rfl
                            have hcz96_1 : wc.cell? ⟨gb712, 1, none⟩ = some (.int .i64 a0_1) := (blk_cell BK712.out 1).trans rfl
                            have hfz96_0 := blk_frozen BK712.out 0
                            have hfz96_1 := blk_frozen BK712.out 1
                            go_wp2
                            go_ret
                            exact ⟨by first | rfl | (simp [errW_none, errW_some] <;> rfl) | (simp [*, errW_none, errW_some] <;> rfl), by repeat (first | (with_reducible first | exact HB.out | apply below_alloc | apply pw_below_drewN | apply below_drew1 | refine below_set ?_ GE712.out | refine below_set ?_ GE720.out) | exact HB.out)⟩
                        · as_aux_lemma =>
                          rw [if_neg c89] at H
                          have c89b0 : ((Int.tmod t731 2) == 0) = false := beq_eq_false_iff_ne.mpr c89
                          have c89b1 : ((Int.tmod t731 2) != 0) = true := bne_iff_ne.mpr c89
                          obtain rfl := Option.some.inj H
                          have hnb97 := NB712_720.out
                          have hnc97 := NB720_712.out
                          have hcz98_0 : wc.cell? ⟨gb712, 0, none⟩ = some (.int .i64 a0_0) := (blk_cell BK712.out 0).trans rfl
                          have hcz98_1 : wc.cell? ⟨gb712, 1, none⟩ = some (.int .i64 a0_1) := (blk_cell BK712.out 1).trans rfl
                          have hfz98_0 := blk_frozen BK712.out 0
                          have hfz98_1 := blk_frozen BK712.out 1
                          go_wp2
                          go_ret
                          exact ⟨by first | rfl | (simp [errW_none, errW_some] <;> rfl) | (simp [*, errW_none, errW_some] <;> rfl), by repeat (first | (with_reducible first | exact HB.out | apply below_alloc | apply pw_below_drewN | apply below_drew1 | refine below_set ?_ GE712.out | refine below_set ?_ GE720.out) | exact HB.out)⟩
                      · as_aux_lemma =>
                        rw [if_neg c88] at H
                        have c88b0 : (a0_1 == 2) = false := beq_eq_false_iff_ne.mpr c88
                        have c88b1 : (a0_1 != 2) = true := bne_iff_ne.mpr c88
                        obtain rfl := Option.some.inj H
                        have hnb99 := NB712_720.out
                        have hnc99 := NB720_712.out
                        have hcz100_0 : wc.cell? ⟨gb712, 0, none⟩ = some (.int .i64 a0_0) := (blk_cell BK712.out 0).trans rfl
                        have hcz100_1 : wc.cell? ⟨gb712, 1, none⟩ = some (.int .i64 a0_1) := (blk_cell BK712.out 1).trans rfl
                        have hfz100_0 := blk_frozen BK712.out 0
                        have hfz100_1 := blk_frozen BK712.out 1
                        go_wp2
                        go_ret
                        exact ⟨by first | rfl | (simp [errW_none, errW_some] <;> rfl) | (simp [*, errW_none, errW_some] <;> rfl), by repeat (first | (with_reducible first | exact HB.out | apply below_alloc | apply pw_below_drewN | apply below_drew1 | refine below_set ?_ GE712.out | refine below_set ?_ GE720.out) | exact HB.out)⟩
                  · as_aux_lemma =>
                    rw [if_neg c66] at H
                    have c66b0 : (t731 == t721) = false := beq_eq_false_iff_ne.mpr c66
                    have c66b1 : (t731 != t721) = true := bne_iff_ne.mpr c66
                    by_cases c101 : t731 = t723
                    · as_aux_lemma =>
                      rw [if_pos c101] at H
                      have c101b0 : (t731 == t723) = true := beq_iff_eq.mpr c101
                      have c101b1 : (t731 != t723) = false := bne_eq_false_iff_eq.mpr c101
                      clear c101
                      by_cases c102 : t729 = t731
                      · as_aux_lemma =>
                        rw [if_pos c102] at H
                        have c102b0 : (t729 == t731) = true := beq_iff_eq.mpr c102
                        have c102b1 : (t729 != t731) = false := bne_eq_false_iff_eq.mpr c102
                        clear c102
                        by_cases c103 : (Int.tmod t731 2) = 0
                        · as_aux_lemma =>
                          rw [if_pos c103] at H
                          have c103b0 : ((Int.tmod t731 2) == 0) = true := beq_iff_eq.mpr c103
                          have c103b1 : ((Int.tmod t731 2) != 0) = false := bne_eq_false_iff_eq.mpr c103
                          clear c103
                          by_cases c104 : a0_1 = 2
                          · as_aux_lemma =>
                            rw [if_pos c104] at H
                            have c104b0 : (a0_1 == 2) = true := beq_iff_eq.mpr c104
                            have c104b1 : (a0_1 != 2) = false := bne_eq_false_iff_eq.mpr c104
                            clear c104
                            by_cases c105 : t729 = t723
                            · as_aux_lemma =>
                              rw [if_pos c105] at H
                              have c105b0 : (t729 == t723) = true := beq_iff_eq.mpr c105
                              have c105b1 : (t729 != t723) = false := bne_eq_false_iff_eq.mpr c105
                              clear c105
                              replace H := Option.bind_eq_some_iff.mp H
                              obtain ⟨t737, A1060, H⟩ := H
                              replace H : (some t737) = some r := H
                              have A106 := Aside0.mk A1060
                              clear A1060
                              obtain rfl := Option.some.inj H
                              have hnb107 := NB712_720.out
                              have hnc107 := NB720_712.out
                              have hcz108_0 : wc.cell? ⟨gb712, 0, none⟩ = some (.int .i64 a0_0) := (blk_cell BK712.out 0).trans rfl
                              have hcz108_1 : wc.cell? ⟨gb712, 1, none⟩ = some (.int .i64 a0_1) := (blk_cell BK712.out 1).trans rfl
                              have hfz108_0 := blk_frozen BK712.out 0
                              have hfz108_1 := blk_frozen BK712.out 1
                              go_wp2_with (first | (go_at_call 21; (with_reducible refine (merinolaw01_alive.calls  t737 _ A106.out).mono ?_); rintro e w109 ⟨rfl, hb⟩; have n0_ := Aside0.mk (blk_below (g := gb712) (o := .cells #[.int .i64 a0_0, .int .i64 a0_1] 23 (0, 0)) (by (with_reducible repeat (first | refine blk_drewN ?_ _ | refine blk_drew ?_ | refine blk_alloc ?_ _)); exact BK712.out) hb); have n1_ := Aside0.mk (blk_below (g := gb720) (o := .cells #[.int .i64 t717, .int .i64 t718] 23 (0, 0)) (by (with_reducible repeat (first | refine blk_drewN ?_ _ | refine blk_drew ?_ | refine blk_alloc ?_ _)); exact BK720.out) hb); have n2_ := Aside0.mk (below_step (by repeat (first | (with_reducible first | exact HB.out | apply below_alloc | apply pw_below_drewN | apply below_drew1 | refine below_set ?_ GE712.out | refine below_set ?_ GE720.out) | exact HB.out)) hb); clear BK712; clear BK720; clear HB; have BK712 := n0_; have BK720 := n1_; have HB := n2_; clear n0_ n1_ n2_; (try clear hb); (try clear hb2); (try clear hk); (try clear hi)))
                              go_ret
                              exact ⟨by first | rfl | (simp [errW_none, errW_some] <;> rfl) | (simp [*, errW_none, errW_some] <;> rfl), by repeat (first | (with_reducible first | exact HB.out | apply below_alloc | apply pw_below_drewN | apply below_drew1 | refine below_set ?_ GE712.out | refine below_set ?_ GE720.out) | exact HB.out)⟩
                            · as_aux_lemma =>
                              rw [if_neg c105] at H
                              have c105b0 : (t729 == t723) = false := beq_eq_false_iff_ne.mpr c105
                              have c105b1 : (t729 != t723) = true := bne_iff_ne.mpr c105
                              obtain rfl := Option.some.inj H
                              have hnb110 := NB712_720.out
                              have hnc110 := NB720_712.out
                              have hcz111_0 : wc.cell? ⟨gb712, 0, none⟩ = some (.int .i64 a0_0) := (blk_cell BK712.out 0).trans rfl
                              have hcz111_1 : wc.cell? ⟨gb712, 1, none⟩ = some (.int .i64 a0_1) := (blk_cell BK712.out 1).trans rfl
                              have hfz111_0 := blk_frozen BK712.out 0
                              have hfz111_1 := blk_frozen BK712.out 1
                              go_wp2
                              go_ret
                              exact ⟨by first | rfl | (simp [errW_none, errW_some] <;> rfl) | (simp [*, errW_none, errW_some] <;> rfl), by repeat (first | (with_reducible first | exact HB.out | apply below_alloc | apply pw_below_drewN | apply below_drew1 | refine below_set ?_ GE712.out | refine below_set ?_ GE720.out) | exact HB.out)⟩
                          · as_aux_lemma =>
                            rw [if_neg c104] at H
                            have c104b0 : (a0_1 == 2) = false := beq_eq_false_iff_ne.mpr c104
                            have c104b1 : (a0_1 != 2) = true := bne_iff_ne.mpr c104
                            replace H := Option.bind_eq_some_iff.mp H
                            obtain ⟨t738, A1120, H⟩ := H
                            replace H : (some t738) = some r := H
                            have A112 := Aside0.mk A1120
                            clear A1120
                            obtain rfl := Option.some.inj H
                            have hnb113 := NB712_720.out
                            have hnc113 := NB720_712.out
                            have hcz114_0 : wc.cell? ⟨gb712, 0, none⟩ = some (.int .i64 a0_0) := (blk_cell BK712.out 0).trans rfl
                            have hcz114_1 : wc.cell? ⟨gb712, 1, none⟩ = some (.int .i64 a0_1) := (blk_cell BK712.out 1).trans rfl
                            have hfz114_0 := blk_frozen BK712.out 0
                            have hfz114_1 := blk_frozen BK712.out 1
                            go_wp2_with (first | (go_at_call 21; (with_reducible refine (merinolaw01_alive.calls  t738 _ A112.out).mono ?_); rintro e w115 ⟨rfl, hb⟩; have n0_ := Aside0.mk (blk_below (g := gb712) (o := .cells #[.int .i64 a0_0, .int .i64 a0_1] 23 (0, 0)) (by (with_reducible repeat (first | refine blk_drewN ?_ _ | refine blk_drew ?_ | refine blk_alloc ?_ _)); exact BK712.out) hb); have n1_ := Aside0.mk (blk_below (g := gb720) (o := .cells #[.int .i64 t717, .int .i64 t718] 23 (0, 0)) (by (with_reducible repeat (first | refine blk_drewN ?_ _ | refine blk_drew ?_ | refine blk_alloc ?_ _)); exact BK720.out) hb); have n2_ := Aside0.mk (below_step (by repeat (first | (with_reducible first | exact HB.out | apply below_alloc | apply pw_below_drewN | apply below_drew1 | refine below_set ?_ GE712.out | refine below_set ?_ GE720.out) | exact HB.out)) hb); clear BK712; clear BK720; clear HB; have BK712 := n0_; have BK720 := n1_; have HB := n2_; clear n0_ n1_ n2_; (try clear hb); (try clear hb2); (try clear hk); (try clear hi)))
                            go_ret
                            exact ⟨by first | rfl | (simp [errW_none, errW_some] <;> rfl) | (simp [*, errW_none, errW_some] <;> rfl), by repeat (first | (with_reducible first | exact HB.out | apply below_alloc | apply pw_below_drewN | apply below_drew1 | refine below_set ?_ GE712.out | refine below_set ?_ GE720.out) | exact HB.out)⟩
                        · as_aux_lemma =>
                          rw [if_neg c103] at H
                          have c103b0 : ((Int.tmod t731 2) == 0) = false := beq_eq_false_iff_ne.mpr c103
                          have c103b1 : ((Int.tmod t731 2) != 0) = true := bne_iff_ne.mpr c103
                          by_cases c116 : a0_1 = 2
                          · as_aux_lemma =>
                            rw [if_pos c116] at H
                            have c116b0 : (a0_1 == 2) = true := beq_iff_eq.mpr c116
                            have c116b1 : (a0_1 != 2) = false := bne_eq_false_iff_eq.mpr c116
                            clear c116
                            obtain rfl := Option.some.inj H
                            have hnb117 := NB712_720.out
                            have hnc117 := NB720_712.out
                            have hcz118_0 : wc.cell? ⟨gb712, 0, none⟩ = some (.int .i64 a0_0) := (blk_cell BK712.out 0).trans rfl
                            have hcz118_1 : wc.cell? ⟨gb712, 1, none⟩ = some (.int .i64 a0_1) := (blk_cell BK712.out 1).trans rfl
                            have hfz118_0 := blk_frozen BK712.out 0
                            have hfz118_1 := blk_frozen BK712.out 1
                            go_wp2
                            go_ret
                            exact ⟨by first | rfl | (simp [errW_none, errW_some] <;> rfl) | (simp [*, errW_none, errW_some] <;> rfl), by repeat (first | (with_reducible first | exact HB.out | apply below_alloc | apply pw_below_drewN | apply below_drew1 | refine below_set ?_ GE712.out | refine below_set ?_ GE720.out) | exact HB.out)⟩
                          · as_aux_lemma =>
                            rw [if_neg c116] at H
                            have c116b0 : (a0_1 == 2) = false := beq_eq_false_iff_ne.mpr c116
                            have c116b1 : (a0_1 != 2) = true := bne_iff_ne.mpr c116
                            replace H := Option.bind_eq_some_iff.mp H
                            obtain ⟨t739, A1190, H⟩ := H
                            replace H : (some t739) = some r := H
                            have A119 := Aside0.mk A1190
                            clear A1190
                            obtain rfl := Option.some.inj H
                            have hnb120 := NB712_720.out
                            have hnc120 := NB720_712.out
                            have hcz121_0 : wc.cell? ⟨gb712, 0, none⟩ = some (.int .i64 a0_0) := (blk_cell BK712.out 0).trans rfl
                            have hcz121_1 : wc.cell? ⟨gb712, 1, none⟩ = some (.int .i64 a0_1) := (blk_cell BK712.out 1).trans rfl
                            have hfz121_0 := blk_frozen BK712.out 0
                            have hfz121_1 := blk_frozen BK712.out 1
                            go_wp2_with (first | (go_at_call 21; (with_reducible refine (merinolaw01_alive.calls  t739 _ A119.out).mono ?_); rintro e w122 ⟨rfl, hb⟩; have n0_ := Aside0.mk (blk_below (g := gb712) (o := .cells #[.int .i64 a0_0, .int .i64 a0_1] 23 (0, 0)) (by (with_reducible repeat (first | refine blk_drewN ?_ _ | refine blk_drew ?_ | refine blk_alloc ?_ _)); exact BK712.out) hb); have n1_ := Aside0.mk (blk_below (g := gb720) (o := .cells #[.int .i64 t717, .int .i64 t718] 23 (0, 0)) (by (with_reducible repeat (first | refine blk_drewN ?_ _ | refine blk_drew ?_ | refine blk_alloc ?_ _)); exact BK720.out) hb); have n2_ := Aside0.mk (below_step (by repeat (first | (with_reducible first | exact HB.out | apply below_alloc | apply pw_below_drewN | apply below_drew1 | refine below_set ?_ GE712.out | refine below_set ?_ GE720.out) | exact HB.out)) hb); clear BK712; clear BK720; clear HB; have BK712 := n0_; have BK720 := n1_; have HB := n2_; clear n0_ n1_ n2_; (try clear hb); (try clear hb2); (try clear hk); (try clear hi)))
                            go_ret
                            exact ⟨by first | rfl | (simp [errW_none, errW_some] <;> rfl) | (simp [*, errW_none, errW_some] <;> rfl), by repeat (first | (with_reducible first | exact HB.out | apply below_alloc | apply pw_below_drewN | apply below_drew1 | refine below_set ?_ GE712.out | refine below_set ?_ GE720.out) | exact HB.out)⟩
                      · as_aux_lemma =>
                        rw [if_neg c102] at H
                        have c102b0 : (t729 == t731) = false := beq_eq_false_iff_ne.mpr c102
                        have c102b1 : (t729 != t731) = true := bne_iff_ne.mpr c102
                        by_cases c123 : a0_1 = 2
                        · as_aux_lemma =>
                          rw [if_pos c123] at H
                          have c123b0 : (a0_1 == 2) = true := beq_iff_eq.mpr c123
                          have c123b1 : (a0_1 != 2) = false := bne_eq_false_iff_eq.mpr c123
                          clear c123
                          by_cases c124 : (Int.tmod t731 2) = 0
                          · as_aux_lemma =>
                            rw [if_pos c124] at H
                            have c124b0 : ((Int.tmod t731 2) == 0) = true := beq_iff_eq.mpr c124
                            have c124b1 : ((Int.tmod t731 2) != 0) = false := bne_eq_false_iff_eq.mpr c124
                            clear c124
                            by_cases c125 : t729 = t723
                            · as_aux_lemma =>
                              rw [if_pos c125] at H
                              have c125b0 : (t729 == t723) = true := beq_iff_eq.mpr c125
                              have c125b1 : (t729 != t723) = false := bne_eq_false_iff_eq.mpr c125
                              clear c125
                              replace H := Option.bind_eq_some_iff.mp H
                              obtain ⟨t740, A1260, H⟩ := H
                              replace H : (some t740) = some r := H
                              have A126 := Aside0.mk A1260
                              clear A1260
                              obtain rfl := Option.some.inj H
                              have hnb127 := NB712_720.out
                              have hnc127 := NB720_712.out
                              have hcz128_0 : wc.cell? ⟨gb712, 0, none⟩ = some (.int .i64 a0_0) := (blk_cell BK712.out 0).trans rfl
                              have hcz128_1 : wc.cell? ⟨gb712, 1, none⟩ = some (.int .i64 a0_1) := (blk_cell BK712.out 1).trans rfl
                              have hfz128_0 := blk_frozen BK712.out 0
                              have hfz128_1 := blk_frozen BK712.out 1
                              go_wp2_with (first | (go_at_call 21; (with_reducible refine (merinolaw01_alive.calls  t740 _ A126.out).mono ?_); rintro e w129 ⟨rfl, hb⟩; have n0_ := Aside0.mk (blk_below (g := gb712) (o := .cells #[.int .i64 a0_0, .int .i64 a0_1] 23 (0, 0)) (by (with_reducible repeat (first | refine blk_drewN ?_ _ | refine blk_drew ?_ | refine blk_alloc ?_ _)); exact BK712.out) hb); have n1_ := Aside0.mk (blk_below (g := gb720) (o := .cells #[.int .i64 t717, .int .i64 t718] 23 (0, 0)) (by (with_reducible repeat (first | refine blk_drewN ?_ _ | refine blk_drew ?_ | refine blk_alloc ?_ _)); exact BK720.out) hb); have n2_ := Aside0.mk (below_step (by repeat (first | (with_reducible first | exact HB.out | apply below_alloc | apply pw_below_drewN | apply below_drew1 | refine below_set ?_ GE712.out | refine below_set ?_ GE720.out) | exact HB.out)) hb); clear BK712; clear BK720; clear HB; have BK712 := n0_; have BK720 := n1_; have HB := n2_; clear n0_ n1_ n2_; (try clear hb); (try clear hb2); (try clear hk); (try clear hi)))
                              go_ret
                              exact ⟨by first | rfl | (simp [errW_none, errW_some] <;> rfl) | (simp [*, errW_none, errW_some] <;> rfl), by repeat (first | (with_reducible first | exact HB.out | apply below_alloc | apply pw_below_drewN | apply below_drew1 | refine below_set ?_ GE712.out | refine below_set ?_ GE720.out) | exact HB.out)⟩
                            · as_aux_lemma =>
                              rw [if_neg c125] at H
                              have c125b0 : (t729 == t723) = false := beq_eq_false_iff_ne.mpr c125
                              have c125b1 : (t729 != t723) = true := bne_iff_ne.mpr c125
                              obtain rfl := Option.some.inj H
                              have hnb130 := NB712_720.out
                              have hnc130 := NB720_712.out
                              have hcz131_0 : wc.cell? ⟨gb712, 0, none⟩ = some (.int .i64 a0_0) := (blk_cell BK712.out 0).trans rfl
                              have hcz131_1 : wc.cell? ⟨gb712, 1, none⟩ = some (.int .i64 a0_1) := (blk_cell BK712.out 1).trans rfl
                              have hfz131_0 := blk_frozen BK712.out 0
                              have hfz131_1 := blk_frozen BK712.out 1
                              go_wp2
                              go_ret
                              exact ⟨by first | rfl | (simp [errW_none, errW_some] <;> rfl) | (simp [*, errW_none, errW_some] <;> rfl), by repeat (first | (with_reducible first | exact HB.out | apply below_alloc | apply pw_below_drewN | apply below_drew1 | refine below_set ?_ GE712.out | refine below_set ?_ GE720.out) | exact HB.out)⟩
                          · as_aux_lemma =>
                            rw [if_neg c124] at H
                            have c124b0 : ((Int.tmod t731 2) == 0) = false := beq_eq_false_iff_ne.mpr c124
                            have c124b1 : ((Int.tmod t731 2) != 0) = true := bne_iff_ne.mpr c124
                            obtain rfl := Option.some.inj H
                            have hnb132 := NB712_720.out
                            have hnc132 := NB720_712.out
                            have hcz133_0 : wc.cell? ⟨gb712, 0, none⟩ = some (.int .i64 a0_0) := (blk_cell BK712.out 0).trans rfl
                            have hcz133_1 : wc.cell? ⟨gb712, 1, none⟩ = some (.int .i64 a0_1) := (blk_cell BK712.out 1).trans rfl
                            have hfz133_0 := blk_frozen BK712.out 0
                            have hfz133_1 := blk_frozen BK712.out 1
                            go_wp2
                            go_ret
                            exact ⟨by first | rfl | (simp [errW_none, errW_some] <;> rfl) | (simp [*, errW_none, errW_some] <;> rfl), by repeat (first | (with_reducible first | exact HB.out | apply below_alloc | apply pw_below_drewN | apply below_drew1 | refine below_set ?_ GE712.out | refine below_set ?_ GE720.out) | exact HB.out)⟩
                        · as_aux_lemma =>
                          rw [if_neg c123] at H
                          have c123b0 : (a0_1 == 2) = false := beq_eq_false_iff_ne.mpr c123
                          have c123b1 : (a0_1 != 2) = true := bne_iff_ne.mpr c123
                          obtain rfl := Option.some.inj H
                          have hnb134 := NB712_720.out
                          have hnc134 := NB720_712.out
                          have hcz135_0 : wc.cell? ⟨gb712, 0, none⟩ = some (.int .i64 a0_0) := (blk_cell BK712.out 0).trans rfl
                          have hcz135_1 : wc.cell? ⟨gb712, 1, none⟩ = some (.int .i64 a0_1) := (blk_cell BK712.out 1).trans rfl
                          have hfz135_0 := blk_frozen BK712.out 0
                          have hfz135_1 := blk_frozen BK712.out 1
                          go_wp2
                          go_ret
                          exact ⟨by first | rfl | (simp [errW_none, errW_some] <;> rfl) | (simp [*, errW_none, errW_some] <;> rfl), by repeat (first | (with_reducible first | exact HB.out | apply below_alloc | apply pw_below_drewN | apply below_drew1 | refine below_set ?_ GE712.out | refine below_set ?_ GE720.out) | exact HB.out)⟩
                    · as_aux_lemma =>
                      rw [if_neg c101] at H
                      have c101b0 : (t731 == t723) = false := beq_eq_false_iff_ne.mpr c101
                      have c101b1 : (t731 != t723) = true := bne_iff_ne.mpr c101
                      obtain rfl := Option.some.inj H
                      go_wp2
                      go_ret
                      exact ⟨by first | rfl | (simp [errW_none, errW_some] <;> rfl) | (simp [*, errW_none, errW_some] <;> rfl), by repeat (first | (with_reducible first | exact HB.out | apply below_alloc | apply pw_below_drewN | apply below_drew1 | refine below_set ?_ GE712.out | refine below_set ?_ GE720.out) | exact HB.out)⟩
                · as_aux_lemma =>
                  rw [if_neg c65] at H
                  have c65b0 : (t729 == t721) = false := beq_eq_false_iff_ne.mpr c65
                  have c65b1 : (t729 != t721) = true := bne_iff_ne.mpr c65
                  by_cases c136 : t729 = t723
                  · as_aux_lemma =>
                    rw [if_pos c136] at H
                    have c136b0 : (t729 == t723) = true := beq_iff_eq.mpr c136
                    have c136b1 : (t729 != t723) = false := bne_eq_false_iff_eq.mpr c136
                    clear c136
                    by_cases c137 : t731 = t721
                    · as_aux_lemma =>
                      rw [if_pos c137] at H
                      have c137b0 : (t731 == t721) = true := beq_iff_eq.mpr c137
                      have c137b1 : (t731 != t721) = false := bne_eq_false_iff_eq.mpr c137
                      clear c137
                      by_cases c138 : t729 = t731
                      · as_aux_lemma =>
                        rw [if_pos c138] at H
                        have c138b0 : (t729 == t731) = true := beq_iff_eq.mpr c138
                        have c138b1 : (t729 != t731) = false := bne_eq_false_iff_eq.mpr c138
                        clear c138
                        by_cases c139 : (Int.tmod t731 2) = 0
                        · as_aux_lemma =>
                          rw [if_pos c139] at H
                          have c139b0 : ((Int.tmod t731 2) == 0) = true := beq_iff_eq.mpr c139
                          have c139b1 : ((Int.tmod t731 2) != 0) = false := bne_eq_false_iff_eq.mpr c139
                          clear c139
                          by_cases c140 : a0_1 = 2
                          · as_aux_lemma =>
                            rw [if_pos c140] at H
                            have c140b0 : (a0_1 == 2) = true := beq_iff_eq.mpr c140
                            have c140b1 : (a0_1 != 2) = false := bne_eq_false_iff_eq.mpr c140
                            clear c140
                            replace H := Option.bind_eq_some_iff.mp H
                            obtain ⟨t741, A1410, H⟩ := H
                            replace H : (some t741) = some r := H
                            have A141 := Aside0.mk A1410
                            clear A1410
                            obtain rfl := Option.some.inj H
                            have hnb142 := NB712_720.out
                            have hnc142 := NB720_712.out
                            have hcz143_0 : wc.cell? ⟨gb712, 0, none⟩ = some (.int .i64 a0_0) := (blk_cell BK712.out 0).trans rfl
                            have hcz143_1 : wc.cell? ⟨gb712, 1, none⟩ = some (.int .i64 a0_1) := (blk_cell BK712.out 1).trans rfl
                            have hfz143_0 := blk_frozen BK712.out 0
                            have hfz143_1 := blk_frozen BK712.out 1
                            go_wp2_with (first | (go_at_call 21; (with_reducible refine (merinolaw01_alive.calls  t741 _ A141.out).mono ?_); rintro e w144 ⟨rfl, hb⟩; have n0_ := Aside0.mk (blk_below (g := gb712) (o := .cells #[.int .i64 a0_0, .int .i64 a0_1] 23 (0, 0)) (by (with_reducible repeat (first | refine blk_drewN ?_ _ | refine blk_drew ?_ | refine blk_alloc ?_ _)); exact BK712.out) hb); have n1_ := Aside0.mk (blk_below (g := gb720) (o := .cells #[.int .i64 t717, .int .i64 t718] 23 (0, 0)) (by (with_reducible repeat (first | refine blk_drewN ?_ _ | refine blk_drew ?_ | refine blk_alloc ?_ _)); exact BK720.out) hb); have n2_ := Aside0.mk (below_step (by repeat (first | (with_reducible first | exact HB.out | apply below_alloc | apply pw_below_drewN | apply below_drew1 | refine below_set ?_ GE712.out | refine below_set ?_ GE720.out) | exact HB.out)) hb); clear BK712; clear BK720; clear HB; have BK712 := n0_; have BK720 := n1_; have HB := n2_; clear n0_ n1_ n2_; (try clear hb); (try clear hb2); (try clear hk); (try clear hi)))
                            go_ret
                            exact ⟨by first | rfl | (simp [errW_none, errW_some] <;> rfl) | (simp [*, errW_none, errW_some] <;> rfl), by repeat (first | (with_reducible first | exact HB.out | apply below_alloc | apply pw_below_drewN | apply below_drew1 | refine below_set ?_ GE712.out | refine below_set ?_ GE720.out) | exact HB.out)⟩
                          · as_aux_lemma =>
                            rw [if_neg c140] at H
                            have c140b0 : (a0_1 == 2) = false := beq_eq_false_iff_ne.mpr c140
                            have c140b1 : (a0_1 != 2) = true := bne_iff_ne.mpr c140
                            replace H := Option.bind_eq_some_iff.mp H
                            obtain ⟨t742, A1450, H⟩ := H
                            replace H : (some t742) = some r := H
                            have A145 := Aside0.mk A1450
                            clear A1450
                            obtain rfl := Option.some.inj H
                            have hnb146 := NB712_720.out
                            have hnc146 := NB720_712.out
                            have hcz147_0 : wc.cell? ⟨gb712, 0, none⟩ = some (.int .i64 a0_0) := (blk_cell BK712.out 0).trans rfl
                            have hcz147_1 : wc.cell? ⟨gb712, 1, none⟩ = some (.int .i64 a0_1) := (blk_cell BK712.out 1).trans rfl
                            have hfz147_0 := blk_frozen BK712.out 0
                            have hfz147_1 := blk_frozen BK712.out 1
                            go_wp2_with (first | (go_at_call 21; (with_reducible refine (merinolaw01_alive.calls  t742 _ A145.out).mono ?_); rintro e w148 ⟨rfl, hb⟩; have n0_ := Aside0.mk (blk_below (g := gb712) (o := .cells #[.int .i64 a0_0, .int .i64 a0_1] 23 (0, 0)) (by (with_reducible repeat (first | refine blk_drewN ?_ _ | refine blk_drew ?_ | refine blk_alloc ?_ _)); exact BK712.out) hb); have n1_ := Aside0.mk (blk_below (g := gb720) (o := .cells #[.int .i64 t717, .int .i64 t718] 23 (0, 0)) (by (with_reducible repeat (first | refine blk_drewN ?_ _ | refine blk_drew ?_ | refine blk_alloc ?_ _)); exact BK720.out) hb); have n2_ := Aside0.mk (below_step (by repeat (first | (with_reducible first | exact HB.out | apply below_alloc | apply pw_below_drewN | apply below_drew1 | refine below_set ?_ GE712.out | refine below_set ?_ GE720.out) | exact HB.out)) hb); clear BK712; clear BK720; clear HB; have BK712 := n0_; have BK720 := n1_; have HB := n2_; clear n0_ n1_ n2_; (try clear hb); (try clear hb2); (try clear hk); (try clear hi)))
                            go_ret
                            exact ⟨by first | rfl | (simp [errW_none, errW_some] <;> rfl) | (simp [*, errW_none, errW_some] <;> rfl), by repeat (first | (with_reducible first | exact HB.out | apply below_alloc | apply pw_below_drewN | apply below_drew1 | refine below_set ?_ GE712.out | refine below_set ?_ GE720.out) | exact HB.out)⟩
                        · as_aux_lemma =>
                          rw [if_neg c139] at H
                          have c139b0 : ((Int.tmod t731 2) == 0) = false := beq_eq_false_iff_ne.mpr c139
                          have c139b1 : ((Int.tmod t731 2) != 0) = true := bne_iff_ne.mpr c139
                          by_cases c149 : a0_1 = 2
                          · as_aux_lemma =>
                            rw [if_pos c149] at H
                            have c149b0 : (a0_1 == 2) = true := beq_iff_eq.mpr c149
                            have c149b1 : (a0_1 != 2) = false := bne_eq_false_iff_eq.mpr c149
                            clear c149
                            obtain rfl := Option.some.inj H
                            have hnb150 := NB712_720.out
                            have hnc150 := NB720_712.out
                            have hcz151_0 : wc.cell? ⟨gb712, 0, none⟩ = some (.int .i64 a0_0) := (blk_cell BK712.out 0).trans rfl
                            have hcz151_1 : wc.cell? ⟨gb712, 1, none⟩ = some (.int .i64 a0_1) := (blk_cell BK712.out 1).trans rfl
                            have hfz151_0 := blk_frozen BK712.out 0
                            have hfz151_1 := blk_frozen BK712.out 1
                            go_wp2
                            go_ret
                            exact ⟨by first | rfl | (simp [errW_none, errW_some] <;> rfl) | (simp [*, errW_none, errW_some] <;> rfl), by repeat (first | (with_reducible first | exact HB.out | apply below_alloc | apply pw_below_drewN | apply below_drew1 | refine below_set ?_ GE712.out | refine below_set ?_ GE720.out) | exact HB.out)⟩
                          · as_aux_lemma =>
                            rw [if_neg c149] at H
                            have c149b0 : (a0_1 == 2) = false := beq_eq_false_iff_ne.mpr c149
                            have c149b1 : (a0_1 != 2) = true := bne_iff_ne.mpr c149
                            replace H := Option.bind_eq_some_iff.mp H
                            obtain ⟨t743, A1520, H⟩ := H
                            replace H : (some t743) = some r := H
                            have A152 := Aside0.mk A1520
                            clear A1520
                            obtain rfl := Option.some.inj H
                            have hnb153 := NB712_720.out
                            have hnc153 := NB720_712.out
                            have hcz154_0 : wc.cell? ⟨gb712, 0, none⟩ = some (.int .i64 a0_0) := (blk_cell BK712.out 0).trans rfl
                            have hcz154_1 : wc.cell? ⟨gb712, 1, none⟩ = some (.int .i64 a0_1) := (blk_cell BK712.out 1).trans rfl
                            have hfz154_0 := blk_frozen BK712.out 0
                            have hfz154_1 := blk_frozen BK712.out 1
                            go_wp2_with (first | (go_at_call 21; (with_reducible refine (merinolaw01_alive.calls  t743 _ A152.out).mono ?_); rintro e w155 ⟨rfl, hb⟩; have n0_ := Aside0.mk (blk_below (g := gb712) (o := .cells #[.int .i64 a0_0, .int .i64 a0_1] 23 (0, 0)) (by (with_reducible repeat (first | refine blk_drewN ?_ _ | refine blk_drew ?_ | refine blk_alloc ?_ _)); exact BK712.out) hb); have n1_ := Aside0.mk (blk_below (g := gb720) (o := .cells #[.int .i64 t717, .int .i64 t718] 23 (0, 0)) (by (with_reducible repeat (first | refine blk_drewN ?_ _ | refine blk_drew ?_ | refine blk_alloc ?_ _)); exact BK720.out) hb); have n2_ := Aside0.mk (below_step (by repeat (first | (with_reducible first | exact HB.out | apply below_alloc | apply pw_below_drewN | apply below_drew1 | refine below_set ?_ GE712.out | refine below_set ?_ GE720.out) | exact HB.out)) hb); clear BK712; clear BK720; clear HB; have BK712 := n0_; have BK720 := n1_; have HB := n2_; clear n0_ n1_ n2_; (try clear hb); (try clear hb2); (try clear hk); (try clear hi)))
                            go_ret
                            exact ⟨by first | rfl | (simp [errW_none, errW_some] <;> rfl) | (simp [*, errW_none, errW_some] <;> rfl), by repeat (first | (with_reducible first | exact HB.out | apply below_alloc | apply pw_below_drewN | apply below_drew1 | refine below_set ?_ GE712.out | refine below_set ?_ GE720.out) | exact HB.out)⟩
                      · as_aux_lemma =>
                        rw [if_neg c138] at H
                        have c138b0 : (t729 == t731) = false := beq_eq_false_iff_ne.mpr c138
                        have c138b1 : (t729 != t731) = true := bne_iff_ne.mpr c138
                        by_cases c156 : a0_1 = 2
                        · as_aux_lemma =>
                          rw [if_pos c156] at H
                          have c156b0 : (a0_1 == 2) = true := beq_iff_eq.mpr c156
                          have c156b1 : (a0_1 != 2) = false := bne_eq_false_iff_eq.mpr c156
                          clear c156
                          by_cases c157 : (Int.tmod t731 2) = 0
                          · as_aux_lemma =>
                            rw [if_pos c157] at H
                            have c157b0 : ((Int.tmod t731 2) == 0) = true := beq_iff_eq.mpr c157
                            have c157b1 : ((Int.tmod t731 2) != 0) = false := bne_eq_false_iff_eq.mpr c157
                            clear c157
                            replace H := Option.bind_eq_some_iff.mp H
                            obtain ⟨t744, A1580, H⟩ := H
                            replace H : (some t744) = some r := H
                            have A158 := Aside0.mk A1580
                            clear A1580
                            obtain rfl := Option.some.inj H
                            have hnb159 := NB712_720.out
                            have hnc159 := NB720_712.out
                            have hcz160_0 : wc.cell? ⟨gb712, 0, none⟩ = some (.int .i64 a0_0) := (blk_cell BK712.out 0).trans rfl
                            have hcz160_1 : wc.cell? ⟨gb712, 1, none⟩ = some (.int .i64 a0_1) := (blk_cell BK712.out 1).trans rfl
                            have hfz160_0 := blk_frozen BK712.out 0
                            have hfz160_1 := blk_frozen BK712.out 1
                            go_wp2_with (first | (go_at_call 21; (with_reducible refine (merinolaw01_alive.calls  t744 _ A158.out).mono ?_); rintro e w161 ⟨rfl, hb⟩; have n0_ := Aside0.mk (blk_below (g := gb712) (o := .cells #[.int .i64 a0_0, .int .i64 a0_1] 23 (0, 0)) (by (with_reducible repeat (first | refine blk_drewN ?_ _ | refine blk_drew ?_ | refine blk_alloc ?_ _)); exact BK712.out) hb); have n1_ := Aside0.mk (blk_below (g := gb720) (o := .cells #[.int .i64 t717, .int .i64 t718] 23 (0, 0)) (by (with_reducible repeat (first | refine blk_drewN ?_ _ | refine blk_drew ?_ | refine blk_alloc ?_ _)); exact BK720.out) hb); have n2_ := Aside0.mk (below_step (by repeat (first | (with_reducible first | exact HB.out | apply below_alloc | apply pw_below_drewN | apply below_drew1 | refine below_set ?_ GE712.out | refine below_set ?_ GE720.out) | exact HB.out)) hb); clear BK712; clear BK720; clear HB; have BK712 := n0_; have BK720 := n1_; have HB := n2_; clear n0_ n1_ n2_; (try clear hb); (try clear hb2); (try clear hk); (try clear hi)))
                            go_ret
                            exact ⟨by first | rfl | (simp [errW_none, errW_some] <;> rfl) | (simp [*, errW_none, errW_some] <;> rfl), by repeat (first | (with_reducible first | exact HB.out | apply below_alloc | apply pw_below_drewN | apply below_drew1 | refine below_set ?_ GE712.out | refine below_set ?_ GE720.out) | exact HB.out)⟩
                          · as_aux_lemma =>
                            rw [if_neg c157] at H
                            have c157b0 : ((Int.tmod t731 2) == 0) = false := beq_eq_false_iff_ne.mpr c157
                            have c157b1 : ((Int.tmod t731 2) != 0) = true := bne_iff_ne.mpr c157
                            obtain rfl := Option.some.inj H
                            have hnb162 := NB712_720.out
                            have hnc162 := NB720_712.out
                            have hcz163_0 : wc.cell? ⟨gb712, 0, none⟩ = some (.int .i64 a0_0) := (blk_cell BK712.out 0).trans rfl
                            have hcz163_1 : wc.cell? ⟨gb712, 1, none⟩ = some (.int .i64 a0_1) := (blk_cell BK712.out 1).trans rfl
                            have hfz163_0 := blk_frozen BK712.out 0
                            have hfz163_1 := blk_frozen BK712.out 1
                            go_wp2
                            go_ret
                            exact ⟨by first | rfl | (simp [errW_none, errW_some] <;> rfl) | (simp [*, errW_none, errW_some] <;> rfl), by repeat (first | (with_reducible first | exact HB.out | apply below_alloc | apply pw_below_drewN | apply below_drew1 | refine below_set ?_ GE712.out | refine below_set ?_ GE720.out) | exact HB.out)⟩
                        · as_aux_lemma =>
                          rw [if_neg c156] at H
                          have c156b0 : (a0_1 == 2) = false := beq_eq_false_iff_ne.mpr c156
                          have c156b1 : (a0_1 != 2) = true := bne_iff_ne.mpr c156
                          obtain rfl := Option.some.inj H
                          have hnb164 := NB712_720.out
                          have hnc164 := NB720_712.out
                          have hcz165_0 : wc.cell? ⟨gb712, 0, none⟩ = some (.int .i64 a0_0) := (blk_cell BK712.out 0).trans rfl
                          have hcz165_1 : wc.cell? ⟨gb712, 1, none⟩ = some (.int .i64 a0_1) := (blk_cell BK712.out 1).trans rfl
                          have hfz165_0 := blk_frozen BK712.out 0
                          have hfz165_1 := blk_frozen BK712.out 1
                          go_wp2
                          go_ret
                          exact ⟨by first | rfl | (simp [errW_none, errW_some] <;> rfl) | (simp [*, errW_none, errW_some] <;> rfl), by repeat (first | (with_reducible first | exact HB.out | apply below_alloc | apply pw_below_drewN | apply below_drew1 | refine below_set ?_ GE712.out | refine below_set ?_ GE720.out) | exact HB.out)⟩
                    · as_aux_lemma =>
                      rw [if_neg c137] at H
                      have c137b0 : (t731 == t721) = false := beq_eq_false_iff_ne.mpr c137
                      have c137b1 : (t731 != t721) = true := bne_iff_ne.mpr c137
                      by_cases c166 : t731 = t723
                      · as_aux_lemma =>
                        rw [if_pos c166] at H
                        have c166b0 : (t731 == t723) = true := beq_iff_eq.mpr c166
                        have c166b1 : (t731 != t723) = false := bne_eq_false_iff_eq.mpr c166
                        clear c166
                        by_cases c167 : t729 = t731
                        · as_aux_lemma =>
                          rw [if_pos c167] at H
                          have c167b0 : (t729 == t731) = true := beq_iff_eq.mpr c167
                          have c167b1 : (t729 != t731) = false := bne_eq_false_iff_eq.mpr c167
                          clear c167
                          by_cases c168 : (Int.tmod t731 2) = 0
                          · as_aux_lemma =>
                            rw [if_pos c168] at H
                            have c168b0 : ((Int.tmod t731 2) == 0) = true := beq_iff_eq.mpr c168
                            have c168b1 : ((Int.tmod t731 2) != 0) = false := bne_eq_false_iff_eq.mpr c168
                            clear c168
                            by_cases c169 : a0_1 = 2
                            · as_aux_lemma =>
                              rw [if_pos c169] at H
                              have c169b0 : (a0_1 == 2) = true := beq_iff_eq.mpr c169
                              have c169b1 : (a0_1 != 2) = false := bne_eq_false_iff_eq.mpr c169
                              clear c169
                              replace H := Option.bind_eq_some_iff.mp H
                              obtain ⟨t745, A1700, H⟩ := H
                              replace H : (some t745) = some r := H
                              have A170 := Aside0.mk A1700
                              clear A1700
                              obtain rfl := Option.some.inj H
                              have hnb171 := NB712_720.out
                              have hnc171 := NB720_712.out
                              have hcz172_0 : wc.cell? ⟨gb712, 0, none⟩ = some (.int .i64 a0_0) := (blk_cell BK712.out 0).trans rfl
                              have hcz172_1 : wc.cell? ⟨gb712, 1, none⟩ = some (.int .i64 a0_1) := (blk_cell BK712.out 1).trans rfl
                              have hfz172_0 := blk_frozen BK712.out 0
                              have hfz172_1 := blk_frozen BK712.out 1
                              go_wp2_with (first | (go_at_call 21; (with_reducible refine (merinolaw01_alive.calls  t745 _ A170.out).mono ?_); rintro e w173 ⟨rfl, hb⟩; have n0_ := Aside0.mk (blk_below (g := gb712) (o := .cells #[.int .i64 a0_0, .int .i64 a0_1] 23 (0, 0)) (by (with_reducible repeat (first | refine blk_drewN ?_ _ | refine blk_drew ?_ | refine blk_alloc ?_ _)); exact BK712.out) hb); have n1_ := Aside0.mk (blk_below (g := gb720) (o := .cells #[.int .i64 t717, .int .i64 t718] 23 (0, 0)) (by (with_reducible repeat (first | refine blk_drewN ?_ _ | refine blk_drew ?_ | refine blk_alloc ?_ _)); exact BK720.out) hb); have n2_ := Aside0.mk (below_step (by repeat (first | (with_reducible first | exact HB.out | apply below_alloc | apply pw_below_drewN | apply below_drew1 | refine below_set ?_ GE712.out | refine below_set ?_ GE720.out) | exact HB.out)) hb); clear BK712; clear BK720; clear HB; have BK712 := n0_; have BK720 := n1_; have HB := n2_; clear n0_ n1_ n2_; (try clear hb); (try clear hb2); (try clear hk); (try clear hi)))
                              go_ret
                              exact ⟨by first | rfl | (simp [errW_none, errW_some] <;> rfl) | (simp [*, errW_none, errW_some] <;> rfl), by repeat (first | (with_reducible first | exact HB.out | apply below_alloc | apply pw_below_drewN | apply below_drew1 | refine below_set ?_ GE712.out | refine below_set ?_ GE720.out) | exact HB.out)⟩
                            · as_aux_lemma =>
                              rw [if_neg c169] at H
                              have c169b0 : (a0_1 == 2) = false := beq_eq_false_iff_ne.mpr c169
                              have c169b1 : (a0_1 != 2) = true := bne_iff_ne.mpr c169
                              replace H := Option.bind_eq_some_iff.mp H
                              obtain ⟨t746, A1740, H⟩ := H
                              replace H : (some t746) = some r := H
                              have A174 := Aside0.mk A1740
                              clear A1740
                              obtain rfl := Option.some.inj H
                              have hnb175 := NB712_720.out
                              have hnc175 := NB720_712.out
                              have hcz176_0 : wc.cell? ⟨gb712, 0, none⟩ = some (.int .i64 a0_0) := (blk_cell BK712.out 0).trans rfl
                              have hcz176_1 : wc.cell? ⟨gb712, 1, none⟩ = some (.int .i64 a0_1) := (blk_cell BK712.out 1).trans rfl
                              have hfz176_0 := blk_frozen BK712.out 0
                              have hfz176_1 := blk_frozen BK712.out 1
                              go_wp2_with (first | (go_at_call 21; (with_reducible refine (merinolaw01_alive.calls  t746 _ A174.out).mono ?_); rintro e w177 ⟨rfl, hb⟩; have n0_ := Aside0.mk (blk_below (g := gb712) (o := .cells #[.int .i64 a0_0, .int .i64 a0_1] 23 (0, 0)) (by (with_reducible repeat (first | refine blk_drewN ?_ _ | refine blk_drew ?_ | refine blk_alloc ?_ _)); exact BK712.out) hb); have n1_ := Aside0.mk (blk_below (g := gb720) (o := .cells #[.int .i64 t717, .int .i64 t718] 23 (0, 0)) (by (with_reducible repeat (first | refine blk_drewN ?_ _ | refine blk_drew ?_ | refine blk_alloc ?_ _)); exact BK720.out) hb); have n2_ := Aside0.mk (below_step (by repeat (first | (with_reducible first | exact HB.out | apply below_alloc | apply pw_below_drewN | apply below_drew1 | refine below_set ?_ GE712.out | refine below_set ?_ GE720.out) | exact HB.out)) hb); clear BK712; clear BK720; clear HB; have BK712 := n0_; have BK720 := n1_; have HB := n2_; clear n0_ n1_ n2_; (try clear hb); (try clear hb2); (try clear hk); (try clear hi)))
                              go_ret
                              exact ⟨by first | rfl | (simp [errW_none, errW_some] <;> rfl) | (simp [*, errW_none, errW_some] <;> rfl), by repeat (first | (with_reducible first | exact HB.out | apply below_alloc | apply pw_below_drewN | apply below_drew1 | refine below_set ?_ GE712.out | refine below_set ?_ GE720.out) | exact HB.out)⟩
                          · as_aux_lemma =>
                            rw [if_neg c168] at H
                            have c168b0 : ((Int.tmod t731 2) == 0) = false := beq_eq_false_iff_ne.mpr c168
                            have c168b1 : ((Int.tmod t731 2) != 0) = true := bne_iff_ne.mpr c168
                            by_cases c178 : a0_1 = 2
                            · as_aux_lemma =>
                              rw [if_pos c178] at H
                              have c178b0 : (a0_1 == 2) = true := beq_iff_eq.mpr c178
                              have c178b1 : (a0_1 != 2) = false := bne_eq_false_iff_eq.mpr c178
                              clear c178
                              obtain rfl := Option.some.inj H
                              have hnb179 := NB712_720.out
                              have hnc179 := NB720_712.out
                              have hcz180_0 : wc.cell? ⟨gb712, 0, none⟩ = some (.int .i64 a0_0) := (blk_cell BK712.out 0).trans rfl
                              have hcz180_1 : wc.cell? ⟨gb712, 1, none⟩ = some (.int .i64 a0_1) := (blk_cell BK712.out 1).trans rfl
                              have hfz180_0 := blk_frozen BK712.out 0
                              have hfz180_1 := blk_frozen BK712.out 1
                              go_wp2
                              go_ret
                              exact ⟨by first | rfl | (simp [errW_none, errW_some] <;> rfl) | (simp [*, errW_none, errW_some] <;> rfl), by repeat (first | (with_reducible first | exact HB.out | apply below_alloc | apply pw_below_drewN | apply below_drew1 | refine below_set ?_ GE712.out | refine below_set ?_ GE720.out) | exact HB.out)⟩
                            · as_aux_lemma =>
                              rw [if_neg c178] at H
                              have c178b0 : (a0_1 == 2) = false := beq_eq_false_iff_ne.mpr c178
                              have c178b1 : (a0_1 != 2) = true := bne_iff_ne.mpr c178
                              replace H := Option.bind_eq_some_iff.mp H
                              obtain ⟨t747, A1810, H⟩ := H
                              replace H : (some t747) = some r := H
                              have A181 := Aside0.mk A1810
                              clear A1810
                              obtain rfl := Option.some.inj H
                              have hnb182 := NB712_720.out
                              have hnc182 := NB720_712.out
                              have hcz183_0 : wc.cell? ⟨gb712, 0, none⟩ = some (.int .i64 a0_0) := (blk_cell BK712.out 0).trans rfl
                              have hcz183_1 : wc.cell? ⟨gb712, 1, none⟩ = some (.int .i64 a0_1) := (blk_cell BK712.out 1).trans rfl
                              have hfz183_0 := blk_frozen BK712.out 0
                              have hfz183_1 := blk_frozen BK712.out 1
                              go_wp2_with (first | (go_at_call 21; (with_reducible refine (merinolaw01_alive.calls  t747 _ A181.out).mono ?_); rintro e w184 ⟨rfl, hb⟩; have n0_ := Aside0.mk (blk_below (g := gb712) (o := .cells #[.int .i64 a0_0, .int .i64 a0_1] 23 (0, 0)) (by (with_reducible repeat (first | refine blk_drewN ?_ _ | refine blk_drew ?_ | refine blk_alloc ?_ _)); exact BK712.out) hb); have n1_ := Aside0.mk (blk_below (g := gb720) (o := .cells #[.int .i64 t717, .int .i64 t718] 23 (0, 0)) (by (with_reducible repeat (first | refine blk_drewN ?_ _ | refine blk_drew ?_ | refine blk_alloc ?_ _)); exact BK720.out) hb); have n2_ := Aside0.mk (below_step (by repeat (first | (with_reducible first | exact HB.out | apply below_alloc | apply pw_below_drewN | apply below_drew1 | refine below_set ?_ GE712.out | refine below_set ?_ GE720.out) | exact HB.out)) hb); clear BK712; clear BK720; clear HB; have BK712 := n0_; have BK720 := n1_; have HB := n2_; clear n0_ n1_ n2_; (try clear hb); (try clear hb2); (try clear hk); (try clear hi)))
                              go_ret
                              exact ⟨by first | rfl | (simp [errW_none, errW_some] <;> rfl) | (simp [*, errW_none, errW_some] <;> rfl), by repeat (first | (with_reducible first | exact HB.out | apply below_alloc | apply pw_below_drewN | apply below_drew1 | refine below_set ?_ GE712.out | refine below_set ?_ GE720.out) | exact HB.out)⟩
                        · as_aux_lemma =>
                          rw [if_neg c167] at H
                          have c167b0 : (t729 == t731) = false := beq_eq_false_iff_ne.mpr c167
                          have c167b1 : (t729 != t731) = true := bne_iff_ne.mpr c167
                          by_cases c185 : a0_1 = 2
                          · as_aux_lemma =>
                            rw [if_pos c185] at H
                            have c185b0 : (a0_1 == 2) = true := beq_iff_eq.mpr c185
                            have c185b1 : (a0_1 != 2) = false := bne_eq_false_iff_eq.mpr c185
                            clear c185
                            by_cases c186 : (Int.tmod t731 2) = 0
                            · as_aux_lemma =>
                              rw [if_pos c186] at H
                              have c186b0 : ((Int.tmod t731 2) == 0) = true := beq_iff_eq.mpr c186
                              have c186b1 : ((Int.tmod t731 2) != 0) = false := bne_eq_false_iff_eq.mpr c186
                              clear c186
                              replace H := Option.bind_eq_some_iff.mp H
                              obtain ⟨t748, A1870, H⟩ := H
                              replace H : (some t748) = some r := H
                              have A187 := Aside0.mk A1870
                              clear A1870
                              obtain rfl := Option.some.inj H
                              have hnb188 := NB712_720.out
                              have hnc188 := NB720_712.out
                              have hcz189_0 : wc.cell? ⟨gb712, 0, none⟩ = some (.int .i64 a0_0) := (blk_cell BK712.out 0).trans rfl
                              have hcz189_1 : wc.cell? ⟨gb712, 1, none⟩ = some (.int .i64 a0_1) := (blk_cell BK712.out 1).trans rfl
                              have hfz189_0 := blk_frozen BK712.out 0
                              have hfz189_1 := blk_frozen BK712.out 1
                              go_wp2_with (first | (go_at_call 21; (with_reducible refine (merinolaw01_alive.calls  t748 _ A187.out).mono ?_); rintro e w190 ⟨rfl, hb⟩; have n0_ := Aside0.mk (blk_below (g := gb712) (o := .cells #[.int .i64 a0_0, .int .i64 a0_1] 23 (0, 0)) (by (with_reducible repeat (first | refine blk_drewN ?_ _ | refine blk_drew ?_ | refine blk_alloc ?_ _)); exact BK712.out) hb); have n1_ := Aside0.mk (blk_below (g := gb720) (o := .cells #[.int .i64 t717, .int .i64 t718] 23 (0, 0)) (by (with_reducible repeat (first | refine blk_drewN ?_ _ | refine blk_drew ?_ | refine blk_alloc ?_ _)); exact BK720.out) hb); have n2_ := Aside0.mk (below_step (by repeat (first | (with_reducible first | exact HB.out | apply below_alloc | apply pw_below_drewN | apply below_drew1 | refine below_set ?_ GE712.out | refine below_set ?_ GE720.out) | exact HB.out)) hb); clear BK712; clear BK720; clear HB; have BK712 := n0_; have BK720 := n1_; have HB := n2_; clear n0_ n1_ n2_; (try clear hb); (try clear hb2); (try clear hk); (try clear hi)))
                              go_ret
                              exact ⟨by first | rfl | (simp [errW_none, errW_some] <;> rfl) | (simp [*, errW_none, errW_some] <;> rfl), by repeat (first | (with_reducible first | exact HB.out | apply below_alloc | apply pw_below_drewN | apply below_drew1 | refine below_set ?_ GE712.out | refine below_set ?_ GE720.out) | exact HB.out)⟩
                            · as_aux_lemma =>
                              rw [if_neg c186] at H
                              have c186b0 : ((Int.tmod t731 2) == 0) = false := beq_eq_false_iff_ne.mpr c186
                              have c186b1 : ((Int.tmod t731 2) != 0) = true := bne_iff_ne.mpr c186
                              obtain rfl := Option.some.inj H
                              have hnb191 := NB712_720.out
                              have hnc191 := NB720_712.out
                              have hcz192_0 : wc.cell? ⟨gb712, 0, none⟩ = some (.int .i64 a0_0) := (blk_cell BK712.out 0).trans rfl
                              have hcz192_1 : wc.cell? ⟨gb712, 1, none⟩ = some (.int .i64 a0_1) := (blk_cell BK712.out 1).trans rfl
                              have hfz192_0 := blk_frozen BK712.out 0
                              have hfz192_1 := blk_frozen BK712.out 1
                              go_wp2
                              go_ret
                              exact ⟨by first | rfl | (simp [errW_none, errW_some] <;> rfl) | (simp [*, errW_none, errW_some] <;> rfl), by repeat (first | (with_reducible first | exact HB.out | apply below_alloc | apply pw_below_drewN | apply below_drew1 | refine below_set ?_ GE712.out | refine below_set ?_ GE720.out) | exact HB.out)⟩
                          · as_aux_lemma =>
                            rw [if_neg c185] at H
                            have c185b0 : (a0_1 == 2) = false := beq_eq_false_iff_ne.mpr c185
                            have c185b1 : (a0_1 != 2) = true := bne_iff_ne.mpr c185
                            obtain rfl := Option.some.inj H
                            have hnb193 := NB712_720.out
                            have hnc193 := NB720_712.out
                            have hcz194_0 : wc.cell? ⟨gb712, 0, none⟩ = some (.int .i64 a0_0) := (blk_cell BK712.out 0).trans rfl
                            have hcz194_1 : wc.cell? ⟨gb712, 1, none⟩ = some (.int .i64 a0_1) := (blk_cell BK712.out 1).trans rfl
                            have hfz194_0 := blk_frozen BK712.out 0
                            have hfz194_1 := blk_frozen BK712.out 1
                            go_wp2
                            go_ret
                            exact ⟨by first | rfl | (simp [errW_none, errW_some] <;> rfl) | (simp [*, errW_none, errW_some] <;> rfl), by repeat (first | (with_reducible first | exact HB.out | apply below_alloc | apply pw_below_drewN | apply below_drew1 | refine below_set ?_ GE712.out | refine below_set ?_ GE720.out) | exact HB.out)⟩
                      · as_aux_lemma =>
                        rw [if_neg c166] at H
                        have c166b0 : (t731 == t723) = false := beq_eq_false_iff_ne.mpr c166
                        have c166b1 : (t731 != t723) = true := bne_iff_ne.mpr c166
                        obtain rfl := Option.some.inj H
                        go_wp2
                        go_ret
                        exact ⟨by first | rfl | (simp [errW_none, errW_some] <;> rfl) | (simp [*, errW_none, errW_some] <;> rfl), by repeat (first | (with_reducible first | exact HB.out | apply below_alloc | apply pw_below_drewN | apply below_drew1 | refine below_set ?_ GE712.out | refine below_set ?_ GE720.out) | exact HB.out)⟩
                  · as_aux_lemma =>
                    rw [if_neg c136] at H
                    have c136b0 : (t729 == t723) = false := beq_eq_false_iff_ne.mpr c136
                    have c136b1 : (t729 != t723) = true := bne_iff_ne.mpr c136
                    obtain rfl := Option.some.inj H
                    go_wp2
                    go_ret
                    exact ⟨by first | rfl | (simp [errW_none, errW_some] <;> rfl) | (simp [*, errW_none, errW_some] <;> rfl), by repeat (first | (with_reducible first | exact HB.out | apply below_alloc | apply pw_below_drewN | apply below_drew1 | refine below_set ?_ GE712.out | refine below_set ?_ GE720.out) | exact HB.out)⟩
  · as_aux_lemma =>
    replace c3 := Bool.eq_false_iff.mpr c3
    subst c3
    have H1 : ((num_Round.f k a0_0 a0_1 0).bind fun bt714 => (if bt714.2 = 2 then ((merinolaw01_alive.f).bind fun t716 => (some t716)) else (some false))) = some r := by rw [if_neg (show ¬ (false = true) by decide)] at H; exact H
    clear H
    have H := H1
    clear H1
    replace H := Option.bind_eq_some_iff.mp H
    obtain ⟨⟨t714, t715⟩, A1950, H⟩ := H
    replace H : (if t715 = 2 then ((merinolaw01_alive.f).bind fun t716 => (some t716)) else (some false)) = some r := H
    have A195 := Aside0.mk A1950
    clear A1950
    by_cases c196 : t715 = 2
    · as_aux_lemma =>
      rw [if_pos c196] at H
      have c196b0 : (t715 == 2) = true := beq_iff_eq.mpr c196
      have c196b1 : (t715 != 2) = false := bne_eq_false_iff_eq.mpr c196
      clear c196
      replace H := Option.bind_eq_some_iff.mp H
      obtain ⟨t716, A1970, H⟩ := H
      replace H : (some t716) = some r := H
      have A197 := Aside0.mk A1970
      clear A1970
      obtain rfl := Option.some.inj H
      go_enter Tryd.func9, Tryd.ntmps9
      go_wp2_with (first | ((with_reducible refine gate_dst (N := 1) rfl ?_); refine box_event ?hg (N := 1) ?hd (cs := #[.int .i64 a0_0, .int .i64 a0_1]) (t := 23) ?hr ?_; (case hd => rfl); (case hg => rfl); (case hr => first | (go_simp; done) | (go_simp; rfl)); intro gb712 hg w198 hbox hb; have n0_ := Aside0.mk (below_step (by repeat (first | (with_reducible first | exact HB.out | apply below_alloc | apply pw_below_drewN | apply below_drew1) | exact HB.out)) hb); have n1_ := Aside0.mk (hbox); have n2_ := Aside0.mk ((by rw [hg]; exact (below_size (by repeat (first | (with_reducible first | exact HB.out | apply below_alloc | apply pw_below_drewN | apply below_drew1) | exact HB.out))) : w.heap.size ≤ gb712)); have n3_ := Aside0.mk ((by rw [hg]; exact (below_size (by repeat (first | (with_reducible first | exact HB.out | apply below_alloc | apply pw_below_drewN | apply below_drew1) | exact HB.out))) : w.heap.size ≤ gb712)); clear HB; have HB := n0_; have BK712 := n1_; have GW712 := n2_; have GE712 := n3_; clear n0_ n1_ n2_ n3_; clear hb hbox hg; have hcz199_0 : w198.cell? ⟨gb712, 0, none⟩ = some (.int .i64 a0_0) := (blk_cell BK712.out 0).trans rfl; have hcz199_1 : w198.cell? ⟨gb712, 1, none⟩ = some (.int .i64 a0_1) := (blk_cell BK712.out 1).trans rfl; have hfz199_0 := blk_frozen BK712.out 0; have hfz199_1 := blk_frozen BK712.out 1) | ((with_reducible refine gate_callee (f := 26) rfl ?_); refine goesL_ (some 20) rfl rfl Tryd.func26 (by kernel_rfl) rfl #[.agg #[.int .i64 a0_0, .int .i64 a0_1]] rfl (by (try simp only [List.map_toArray, List.map_cons, List.map_nil]); first | done | rfl | (simp only [List.length_drop, List.length_take]; rfl)) ?_; (with_reducible refine (num_Valid.calls k a0_0 a0_1 false _ A2.out).mono ?_); rintro e w200 ⟨rfl, hb⟩; refine ⟨_, rfl, ?_⟩; have n0_ := Aside0.mk (blk_below (g := gb712) (o := .cells #[.int .i64 a0_0, .int .i64 a0_1] 23 (0, 0)) (by (with_reducible repeat (first | refine blk_drewN ?_ _ | refine blk_drew ?_ | refine blk_alloc ?_ _)); exact BK712.out) hb); have n1_ := Aside0.mk (below_step (by repeat (first | (with_reducible first | exact HB.out | apply below_alloc | apply pw_below_drewN | apply below_drew1 | refine below_set ?_ GE712.out) | exact HB.out)) hb); clear BK712; clear HB; have BK712 := n0_; have HB := n1_; clear n0_ n1_; (try clear hb); (try clear hb2); (try clear hk); (try clear hi); have hcz201_0 : w200.cell? ⟨gb712, 0, none⟩ = some (.int .i64 a0_0) := (blk_cell BK712.out 0).trans rfl; have hcz201_1 : w200.cell? ⟨gb712, 1, none⟩ = some (.int .i64 a0_1) := (blk_cell BK712.out 1).trans rfl; have hfz201_0 := blk_frozen BK712.out 0; have hfz201_1 := blk_frozen BK712.out 1) | ((with_reducible refine gate_callee (f := 43) rfl ?_); refine goesL_ (some 24) rfl rfl Tryd.func43 (by kernel_rfl) rfl #[.agg #[.int .i64 a0_0, .int .i64 a0_1], .int .i64 0] rfl (by (try simp only [List.map_toArray, List.map_cons, List.map_nil]); first | done | rfl | (simp only [List.length_drop, List.length_take]; rfl)) ?_; (with_reducible refine (num_Round.calls k a0_0 a0_1 0 t714 t715 _ A195.out).mono ?_); rintro e w202 ⟨rfl, hb⟩; refine ⟨_, rfl, ?_⟩; have n0_ := Aside0.mk (blk_below (g := gb712) (o := .cells #[.int .i64 a0_0, .int .i64 a0_1] 23 (0, 0)) (by (with_reducible repeat (first | refine blk_drewN ?_ _ | refine blk_drew ?_ | refine blk_alloc ?_ _)); exact BK712.out) hb); have n1_ := Aside0.mk (below_step (by repeat (first | (with_reducible first | exact HB.out | apply below_alloc | apply pw_below_drewN | apply below_drew1 | refine below_set ?_ GE712.out) | exact HB.out)) hb); clear BK712; clear HB; have BK712 := n0_; have HB := n1_; clear n0_ n1_; (try clear hb); (try clear hb2); (try clear hk); (try clear hi)) | (go_at_call 21; (with_reducible refine (merinolaw01_alive.calls  t716 _ A197.out).mono ?_); rintro e w203 ⟨rfl, hb⟩; have n0_ := Aside0.mk (blk_below (g := gb712) (o := .cells #[.int .i64 a0_0, .int .i64 a0_1] 23 (0, 0)) (by (with_reducible repeat (first | refine blk_drewN ?_ _ | refine blk_drew ?_ | refine blk_alloc ?_ _)); exact BK712.out) hb); have n1_ := Aside0.mk (below_step (by repeat (first | (with_reducible first | exact HB.out | apply below_alloc | apply pw_below_drewN | apply below_drew1 | refine below_set ?_ GE712.out) | exact HB.out)) hb); clear BK712; clear HB; have BK712 := n0_; have HB := n1_; clear n0_ n1_; (try clear hb); (try clear hb2); (try clear hk); (try clear hi)))
      go_ret
      exact ⟨by first | rfl | (simp [errW_none, errW_some] <;> rfl) | (simp [*, errW_none, errW_some] <;> rfl), by repeat (first | (with_reducible first | exact HB.out | apply below_alloc | apply pw_below_drewN | apply below_drew1 | refine below_set ?_ GE712.out) | exact HB.out)⟩
    · as_aux_lemma =>
      rw [if_neg c196] at H
      have c196b0 : (t715 == 2) = false := beq_eq_false_iff_ne.mpr c196
      have c196b1 : (t715 != 2) = true := bne_iff_ne.mpr c196
      obtain rfl := Option.some.inj H
      go_enter Tryd.func9, Tryd.ntmps9
      go_wp2_with (first | ((with_reducible refine gate_dst (N := 1) rfl ?_); refine box_event ?hg (N := 1) ?hd (cs := #[.int .i64 a0_0, .int .i64 a0_1]) (t := 23) ?hr ?_; (case hd => rfl); (case hg => rfl); (case hr => first | (go_simp; done) | (go_simp; rfl)); intro gb712 hg w204 hbox hb; have n0_ := Aside0.mk (below_step (by repeat (first | (with_reducible first | exact HB.out | apply below_alloc | apply pw_below_drewN | apply below_drew1) | exact HB.out)) hb); have n1_ := Aside0.mk (hbox); have n2_ := Aside0.mk ((by rw [hg]; exact (below_size (by repeat (first | (with_reducible first | exact HB.out | apply below_alloc | apply pw_below_drewN | apply below_drew1) | exact HB.out))) : w.heap.size ≤ gb712)); have n3_ := Aside0.mk ((by rw [hg]; exact (below_size (by repeat (first | (with_reducible first | exact HB.out | apply below_alloc | apply pw_below_drewN | apply below_drew1) | exact HB.out))) : w.heap.size ≤ gb712)); clear HB; have HB := n0_; have BK712 := n1_; have GW712 := n2_; have GE712 := n3_; clear n0_ n1_ n2_ n3_; clear hb hbox hg; have hcz205_0 : w204.cell? ⟨gb712, 0, none⟩ = some (.int .i64 a0_0) := (blk_cell BK712.out 0).trans rfl; have hcz205_1 : w204.cell? ⟨gb712, 1, none⟩ = some (.int .i64 a0_1) := (blk_cell BK712.out 1).trans rfl; have hfz205_0 := blk_frozen BK712.out 0; have hfz205_1 := blk_frozen BK712.out 1) | ((with_reducible refine gate_callee (f := 26) rfl ?_); refine goesL_ (some 20) rfl rfl Tryd.func26 (by kernel_rfl) rfl #[.agg #[.int .i64 a0_0, .int .i64 a0_1]] rfl (by (try simp only [List.map_toArray, List.map_cons, List.map_nil]); first | done | rfl | (simp only [List.length_drop, List.length_take]; rfl)) ?_; (with_reducible refine (num_Valid.calls k a0_0 a0_1 false _ A2.out).mono ?_); rintro e w206 ⟨rfl, hb⟩; refine ⟨_, rfl, ?_⟩; have n0_ := Aside0.mk (blk_below (g := gb712) (o := .cells #[.int .i64 a0_0, .int .i64 a0_1] 23 (0, 0)) (by (with_reducible repeat (first | refine blk_drewN ?_ _ | refine blk_drew ?_ | refine blk_alloc ?_ _)); exact BK712.out) hb); have n1_ := Aside0.mk (below_step (by repeat (first | (with_reducible first | exact HB.out | apply below_alloc | apply pw_below_drewN | apply below_drew1 | refine below_set ?_ GE712.out) | exact HB.out)) hb); clear BK712; clear HB; have BK712 := n0_; have HB := n1_; clear n0_ n1_; (try clear hb); (try clear hb2); (try clear hk); (try clear hi); have hcz207_0 : w206.cell? ⟨gb712, 0, none⟩ = some (.int .i64 a0_0) := (blk_cell BK712.out 0).trans rfl; have hcz207_1 : w206.cell? ⟨gb712, 1, none⟩ = some (.int .i64 a0_1) := (blk_cell BK712.out 1).trans rfl; have hfz207_0 := blk_frozen BK712.out 0; have hfz207_1 := blk_frozen BK712.out 1) | ((with_reducible refine gate_callee (f := 43) rfl ?_); refine goesL_ (some 24) rfl rfl Tryd.func43 (by kernel_rfl) rfl #[.agg #[.int .i64 a0_0, .int .i64 a0_1], .int .i64 0] rfl (by (try simp only [List.map_toArray, List.map_cons, List.map_nil]); first | done | rfl | (simp only [List.length_drop, List.length_take]; rfl)) ?_; (with_reducible refine (num_Round.calls k a0_0 a0_1 0 t714 t715 _ A195.out).mono ?_); rintro e w208 ⟨rfl, hb⟩; refine ⟨_, rfl, ?_⟩; have n0_ := Aside0.mk (blk_below (g := gb712) (o := .cells #[.int .i64 a0_0, .int .i64 a0_1] 23 (0, 0)) (by (with_reducible repeat (first | refine blk_drewN ?_ _ | refine blk_drew ?_ | refine blk_alloc ?_ _)); exact BK712.out) hb); have n1_ := Aside0.mk (below_step (by repeat (first | (with_reducible first | exact HB.out | apply below_alloc | apply pw_below_drewN | apply below_drew1 | refine below_set ?_ GE712.out) | exact HB.out)) hb); clear BK712; clear HB; have BK712 := n0_; have HB := n1_; clear n0_ n1_; (try clear hb); (try clear hb2); (try clear hk); (try clear hi)))
      go_ret
      exact ⟨by first | rfl | (simp [errW_none, errW_some] <;> rfl) | (simp [*, errW_none, errW_some] <;> rfl), by repeat (first | (with_reducible first | exact HB.out | apply below_alloc | apply pw_below_drewN | apply below_drew1 | refine below_set ?_ GE712.out) | exact HB.out)⟩
end Go.Proofs.YtdjnneflpkllmaaDoor.Q
