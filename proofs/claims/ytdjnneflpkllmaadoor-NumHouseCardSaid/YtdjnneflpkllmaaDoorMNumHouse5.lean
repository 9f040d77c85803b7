/- The law NumHouse answers true whatever its arguments: they are opened, the walk is called, they are shut. -/
import Derived.Test.YtdjnneflpkllmaaDoorMNumHouse4
import Derived.Test.YtdjnneflpkllmaaDoorTie
import Derived.Test.YtdjnneflpkllmaaDoorCards
import Derived.SevenTiedAt

namespace Go.Proofs.YtdjnneflpkllmaaDoor.Q
open Go.RowKit Go.Proofs.YtdjnneflpkllmaaDoorW.PrintWords Go.Proofs.YtdjnneflpkllmaaDoorW.PrintLast Go.Proofs.YtdjnneflpkllmaaDoorW.PrintMore
attribute [local go_sem] max2_int min2_int max_two min_two max_three min_three max_four min_four   -- for this text's walks alone
set_option linter.unusedVariables false
set_option linter.unusedSimpArgs false
mutual
def merinolaw01_NumHouse.j0 : Nat → Int → List Int → Bool → Option (Bool)
  | 0, _, _, _ => none
  | k + 1, x0, x1, x17 => if x17 = true then ((merinolaw01_alive.f).bind fun t1000 => (some t1000)) else ((num_Divide.f k x0 x1).bind fun bt1001 => ((num_Divide.f k (wrap64 (x0 + 1)) x1).bind fun bt1005 => (if bt1001.2 = 0 then (merinolaw01_NumHouse.j1 k bt1001.1 bt1005.1 (bt1005.2 != 0)) else (merinolaw01_NumHouse.j1 k bt1001.1 bt1005.1 true))))
def merinolaw01_NumHouse.j1 : Nat → List Int → List Int → Bool → Option (Bool)
  | 0, _, _, _ => none
  | k + 1, x5, x7, x37 => if x37 = true then ((merinolaw01_alive.f).bind fun t1009 => (some t1009)) else (if (x5.length : Int) = (x7.length : Int) then (merinolaw01_NumHouse.l0 k x5 x7 0 0) else (some false))
def merinolaw01_NumHouse.l0 : Nat → List Int → List Int → Int → Int → Option (Bool)
  | 0, _, _, _, _ => none
  | k + 1, x5, x7, x9, x10 => if x10 < (x5.length : Int) then (if 0 ≤ x10 then (if x10 < (x7.length : Int) then (if (rd x7 x10) = (rd x5 x10) then (merinolaw01_NumHouse.l0 k x5 x7 (wrap64 (x9 + (wrap64 ((rd x7 x10) - (rd x5 x10))))) (wrap64 (x10 + 1))) else (if (rd x7 x10) = (wrap64 ((rd x5 x10) + 1)) then (merinolaw01_NumHouse.l0 k x5 x7 (wrap64 (x9 + (wrap64 ((rd x7 x10) - (rd x5 x10))))) (wrap64 (x10 + 1))) else (some false))) else (none)) else (none)) else (if x9 = 1 then ((merinolaw01_alive.f).bind fun t1018 => (some t1018)) else (some false))
end
def merinolaw01_NumHouse.f (k : Nat) (a0 : Int) (l1 : List Int) : Option (Bool) := (merinolaw01_few.f l1).bind fun t999 => (if t999 = true then (merinolaw01_NumHouse.j0 k a0 l1 (decide (a0 ≥ 1125899906842624))) else (merinolaw01_NumHouse.j0 k a0 l1 true))
theorem merinolaw01_NumHouse.mono_l : ∀ k, (∀ y0 y1 y2, LeO (merinolaw01_NumHouse.j0 k y0 y1 y2) (merinolaw01_NumHouse.j0 (k + 1) y0 y1 y2)) ∧ (∀ y0 y1 y2, LeO (merinolaw01_NumHouse.j1 k y0 y1 y2) (merinolaw01_NumHouse.j1 (k + 1) y0 y1 y2)) ∧ (∀ y0 y1 y2 y3, LeO (merinolaw01_NumHouse.l0 k y0 y1 y2 y3) (merinolaw01_NumHouse.l0 (k + 1) y0 y1 y2 y3))
  | 0 => ⟨fun _ _ _ r h => by simp [merinolaw01_NumHouse.j0] at h, fun _ _ _ r h => by simp [merinolaw01_NumHouse.j1] at h, fun _ _ _ _ r h => by simp [merinolaw01_NumHouse.l0] at h⟩
  | k + 1 => by
    obtain ⟨ih0, ih1, ih2⟩ := merinolaw01_NumHouse.mono_l k
    refine ⟨?_, ?_, ?_⟩
    · intro y0 y1 y2
      unfold merinolaw01_NumHouse.j0
      repeat' first
      | (with_reducible exact ih0 _ _ _)
      | (with_reducible exact ih1 _ _ _)
      | (with_reducible exact ih2 _ _ _ _)
      | (with_reducible exact num_Divide.mono _ _ _)
      | (with_reducible exact LeO.refl _)
      | (with_reducible exact LeO.none _)
      | (with_reducible refine LeO.ite ?_ ?_)
      | (with_reducible refine LeO.bind ?_ (fun _ => ?_))
      | exact ih0 _ _ _
      | exact ih1 _ _ _
      | exact ih2 _ _ _ _
      | exact num_Divide.mono _ _ _
      | exact LeO.none _
      | refine LeO.ite ?_ ?_
      | refine LeO.bind ?_ (fun _ => ?_)
    · intro y0 y1 y2
      unfold merinolaw01_NumHouse.j1
      repeat' first
      | (with_reducible exact ih0 _ _ _)
      | (with_reducible exact ih1 _ _ _)
      | (with_reducible exact ih2 _ _ _ _)
      | (with_reducible exact num_Divide.mono _ _ _)
      | (with_reducible exact LeO.refl _)
      | (with_reducible exact LeO.none _)
      | (with_reducible refine LeO.ite ?_ ?_)
      | (with_reducible refine LeO.bind ?_ (fun _ => ?_))
      | exact ih0 _ _ _
      | exact ih1 _ _ _
      | exact ih2 _ _ _ _
      | exact num_Divide.mono _ _ _
      | exact LeO.none _
      | refine LeO.ite ?_ ?_
      | refine LeO.bind ?_ (fun _ => ?_)
    · intro y0 y1 y2 y3
      unfold merinolaw01_NumHouse.l0
      repeat' first
      | (with_reducible exact ih0 _ _ _)
      | (with_reducible exact ih1 _ _ _)
      | (with_reducible exact ih2 _ _ _ _)
      | (with_reducible exact num_Divide.mono _ _ _)
      | (with_reducible exact LeO.refl _)
      | (with_reducible exact LeO.none _)
      | (with_reducible refine LeO.ite ?_ ?_)
      | (with_reducible refine LeO.bind ?_ (fun _ => ?_))
      | exact ih0 _ _ _
      | exact ih1 _ _ _
      | exact ih2 _ _ _ _
      | exact num_Divide.mono _ _ _
      | exact LeO.none _
      | refine LeO.ite ?_ ?_
      | refine LeO.bind ?_ (fun _ => ?_)
theorem merinolaw01_NumHouse.mono : ∀ a0 a1 k, LeO (merinolaw01_NumHouse.f k a0 a1) (merinolaw01_NumHouse.f (k + 1) a0 a1) := by
  intro a0 a1 k
  obtain ⟨ih0, ih1, ih2⟩ := merinolaw01_NumHouse.mono_l k
  unfold merinolaw01_NumHouse.f
  repeat' first
      | (with_reducible exact ih0 _ _ _)
      | (with_reducible exact ih1 _ _ _)
      | (with_reducible exact ih2 _ _ _ _)
      | (with_reducible exact num_Divide.mono _ _ _)
      | (with_reducible exact LeO.refl _)
      | (with_reducible exact LeO.none _)
      | (with_reducible refine LeO.ite ?_ ?_)
      | (with_reducible refine LeO.bind ?_ (fun _ => ?_))
      | exact ih0 _ _ _
      | exact ih1 _ _ _
      | exact ih2 _ _ _ _
      | exact num_Divide.mono _ _ _
      | exact LeO.none _
      | refine LeO.ite ?_ ?_
      | refine LeO.bind ?_ (fun _ => ?_)
set_option maxHeartbeats 8000000 in
set_option maxRecDepth 100000 in
theorem merinolaw01_NumHouse.calls (k : Nat) (a0 : Int) (A1 : Option Addr) (c1 : Nat) (l1 : List Int) (r : Bool) (w : World) (hr1 : Kd.C (Kd.int .i64) w A1 l1.length l1) (hc1 : l1.length ≤ c1) (h : merinolaw01_NumHouse.f k a0 l1 = some r) :
    Calls Tryd.prog 12 #[.int .i64 a0, .slice A1 l1.length c1] w fun e w' => e = .returned (.bool r) ∧ Below w.heap.size w w' := by
  have HR1 := Aside0.mk hr1
  have HC1 := Aside0.mk hc1
  clear hr1 hc1
  have HB := Aside0.mk (Below.refl w.heap.size w)
  have H : ((merinolaw01_few.f l1).bind fun t999 => (if t999 = true then (merinolaw01_NumHouse.j0 k a0 l1 (decide (a0 ≥ 1125899906842624))) else (merinolaw01_NumHouse.j0 k a0 l1 true))) = some r := h
  clear h
  have HC3 := Aside0.mk H
  clear H
  go_enter Tryd.func12, Tryd.ntmps12
  go_upto_region 1 with (fail)
  repeat (go_quiet (fail); go_upto_region 1 with (fail))
  go_cut [17] (fun v17 wc => ∃ (kq : Nat) (x17_2 : Bool), v17 = .bool x17_2 ∧ Aside0 (merinolaw01_NumHouse.j0 kq a0 l1 x17_2 = some r) ∧ Aside0 (kq ≤ k) ∧ Aside0 (Below w.heap.size w wc))
  case first =>
    have H := HC3.out
    clear HC3
    replace H := Option.bind_eq_some_iff.mp H
    obtain ⟨t999, A40, H⟩ := H
    replace H : (if t999 = true then (merinolaw01_NumHouse.j0 k a0 l1 (decide (a0 ≥ 1125899906842624))) else (merinolaw01_NumHouse.j0 k a0 l1 true)) = some r := H
    have A4 := Aside0.mk A40
    clear A40
    by_cases c5 : t999 = true
    · subst c5
      have H1 : (merinolaw01_NumHouse.j0 k a0 l1 (decide (a0 ≥ 1125899906842624))) = some r := by rw [if_pos rfl] at H; exact H
      clear H
      have H := H1
      clear H1
      have H' := Aside0.mk H
      clear H
      go_wp2_with (first | (go_at_call 35; (with_reducible refine (merinolaw01_few.calls _ _ l1 true _ ?side1 ?side2 A4.out).mono ?_); (case side1 => repeat (first | exact (Kd.C_below HR1.out HB.out) | (with_reducible refine Kd.C_alloc ?_ _) | (with_reducible refine Kd.C_drewN ?_ _) | (with_reducible refine Kd.C_drew ?_))); (case side2 => exact HC1.out); rintro e w' ⟨rfl, ⟨nd, rfl⟩⟩; (try first | exact ⟨rfl, _, World.drewN_drewN _ _ _⟩ | exact ⟨rfl, _, Eq.trans (World.drewN_drewN _ _ _) (congrArg (World.drewN _) (Nat.add_assoc _ _ _))⟩)))
      repeat (go_quiet (first | (go_at_call 35; (with_reducible refine (merinolaw01_few.calls _ _ l1 true _ ?side1 ?side2 A4.out).mono ?_); (case side1 => repeat (first | exact (Kd.C_below HR1.out HB.out) | (with_reducible refine Kd.C_alloc ?_ _) | (with_reducible refine Kd.C_drewN ?_ _) | (with_reducible refine Kd.C_drew ?_))); (case side2 => exact HC1.out); rintro e w' ⟨rfl, ⟨nd, rfl⟩⟩; (try first | exact ⟨rfl, _, World.drewN_drewN _ _ _⟩ | exact ⟨rfl, _, Eq.trans (World.drewN_drewN _ _ _) (congrArg (World.drewN _) (Nat.add_assoc _ _ _))⟩))); try go_wp2_with (first | (go_at_call 35; (with_reducible refine (merinolaw01_few.calls _ _ l1 true _ ?side1 ?side2 A4.out).mono ?_); (case side1 => repeat (first | exact (Kd.C_below HR1.out HB.out) | (with_reducible refine Kd.C_alloc ?_ _) | (with_reducible refine Kd.C_drewN ?_ _) | (with_reducible refine Kd.C_drew ?_))); (case side2 => exact HC1.out); rintro e w' ⟨rfl, ⟨nd, rfl⟩⟩; (try first | exact ⟨rfl, _, World.drewN_drewN _ _ _⟩ | exact ⟨rfl, _, Eq.trans (World.drewN_drewN _ _ _) (congrArg (World.drewN _) (Nat.add_assoc _ _ _))⟩))))
      go_meet
      case rel => exact ⟨_, (decide (a0 ≥ 1125899906842624)), (by first | rfl | (simp; done) | (simp [*]; done)), H', ⟨by first | omega | exact Nat.le_refl _⟩, ⟨by repeat (first | (with_reducible first | exact HB.out | apply below_alloc | apply pw_below_drewN | apply below_drew1) | exact HB.out)⟩⟩
    · replace c5 := Bool.eq_false_iff.mpr c5
      subst c5
      have H1 : (merinolaw01_NumHouse.j0 k a0 l1 true) = some r := by rw [if_neg (show ¬ (false = true) by decide)] at H; exact H
      clear H
      have H := H1
      clear H1
      have H' := Aside0.mk H
      clear H
      go_wp2_with (first | (go_at_call 35; (with_reducible refine (merinolaw01_few.calls _ _ l1 false _ ?side1 ?side2 A4.out).mono ?_); (case side1 => repeat (first | exact (Kd.C_below HR1.out HB.out) | (with_reducible refine Kd.C_alloc ?_ _) | (with_reducible refine Kd.C_drewN ?_ _) | (with_reducible refine Kd.C_drew ?_))); (case side2 => exact HC1.out); rintro e w' ⟨rfl, ⟨nd, rfl⟩⟩; (try first | exact ⟨rfl, _, World.drewN_drewN _ _ _⟩ | exact ⟨rfl, _, Eq.trans (World.drewN_drewN _ _ _) (congrArg (World.drewN _) (Nat.add_assoc _ _ _))⟩)))
      repeat (go_quiet (first | (go_at_call 35; (with_reducible refine (merinolaw01_few.calls _ _ l1 false _ ?side1 ?side2 A4.out).mono ?_); (case side1 => repeat (first | exact (Kd.C_below HR1.out HB.out) | (with_reducible refine Kd.C_alloc ?_ _) | (with_reducible refine Kd.C_drewN ?_ _) | (with_reducible refine Kd.C_drew ?_))); (case side2 => exact HC1.out); rintro e w' ⟨rfl, ⟨nd, rfl⟩⟩; (try first | exact ⟨rfl, _, World.drewN_drewN _ _ _⟩ | exact ⟨rfl, _, Eq.trans (World.drewN_drewN _ _ _) (congrArg (World.drewN _) (Nat.add_assoc _ _ _))⟩))); try go_wp2_with (first | (go_at_call 35; (with_reducible refine (merinolaw01_few.calls _ _ l1 false _ ?side1 ?side2 A4.out).mono ?_); (case side1 => repeat (first | exact (Kd.C_below HR1.out HB.out) | (with_reducible refine Kd.C_alloc ?_ _) | (with_reducible refine Kd.C_drewN ?_ _) | (with_reducible refine Kd.C_drew ?_))); (case side2 => exact HC1.out); rintro e w' ⟨rfl, ⟨nd, rfl⟩⟩; (try first | exact ⟨rfl, _, World.drewN_drewN _ _ _⟩ | exact ⟨rfl, _, Eq.trans (World.drewN_drewN _ _ _) (congrArg (World.drewN _) (Nat.add_assoc _ _ _))⟩))))
      go_meet
      case rel => exact ⟨_, (true), (by first | rfl | (simp; done) | (simp [*]; done)), H', ⟨by first | omega | exact Nat.le_refl _⟩, ⟨by repeat (first | (with_reducible first | exact HB.out | apply below_alloc | apply pw_below_drewN | apply below_drew1) | exact HB.out)⟩⟩
  case rest =>
    clear HC3
    try clear c1
    try clear p2
    try clear c5
    obtain ⟨kq, x17_2, rfl, HA, HJ2, HB⟩ := hcut
    cases kq with
    | zero => exact absurd HA.out (by simp [merinolaw01_NumHouse.j0])
    | succ kj2 =>
      have H := HA.out
      clear HA
      simp only [merinolaw01_NumHouse.j0] at H
      by_cases c6 : x17_2 = true
      · subst c6
        have H1 : ((merinolaw01_alive.f).bind fun t1000 => (some t1000)) = some r := by rw [if_pos rfl] at H; exact H
        clear H
        have H := H1
        clear H1
        replace H := Option.bind_eq_some_iff.mp H
        obtain ⟨t1000, A70, H⟩ := H
        replace H : (some t1000) = some r := H
        have A7 := Aside0.mk A70
        clear A70
        obtain rfl := Option.some.inj H
        go_wp2_with (first | (go_at_call 21; (with_reducible refine (merinolaw01_alive.calls  t1000 _ A7.out).mono ?_); rintro e w8 ⟨rfl, hb⟩; have n0_ := Aside0.mk (below_step (by repeat (first | (with_reducible first | exact HB.out | apply below_alloc | apply pw_below_drewN | apply below_drew1) | exact HB.out)) hb); clear HB; have HB := n0_; clear n0_; (try clear hb); (try clear hb2); (try clear hk); (try clear hi)))
        repeat (go_quiet (first | (go_at_call 21; (with_reducible refine (merinolaw01_alive.calls  t1000 _ A7.out).mono ?_); rintro e w8 ⟨rfl, hb⟩; have n0_ := Aside0.mk (below_step (by repeat (first | (with_reducible first | exact HB.out | apply below_alloc | apply pw_below_drewN | apply below_drew1) | exact HB.out)) hb); clear HB; have HB := n0_; clear n0_; (try clear hb); (try clear hb2); (try clear hk); (try clear hi))); try go_wp2_with (first | (go_at_call 21; (with_reducible refine (merinolaw01_alive.calls  t1000 _ A7.out).mono ?_); rintro e w8 ⟨rfl, hb⟩; have n0_ := Aside0.mk (below_step (by repeat (first | (with_reducible first | exact HB.out | apply below_alloc | apply pw_below_drewN | apply below_drew1) | exact HB.out)) hb); clear HB; have HB := n0_; clear n0_; (try clear hb); (try clear hb2); (try clear hk); (try clear hi))))
        go_ret
        exact ⟨by first | rfl | (simp [errW_none, errW_some] <;> rfl) | (simp [*, errW_none, errW_some] <;> rfl), by repeat (first | (with_reducible first | exact HB.out | apply below_alloc | apply pw_below_drewN | apply below_drew1) | exact HB.out)⟩
      · replace c6 := Bool.eq_false_iff.mpr c6
        subst c6
        have H1 : ((num_Divide.f kj2 a0 l1).bind fun bt1001 => ((num_Divide.f kj2 (wrap64 (a0 + 1)) l1).bind fun bt1005 => (if bt1001.2 = 0 then (merinolaw01_NumHouse.j1 kj2 bt1001.1 bt1005.1 (bt1005.2 != 0)) else (merinolaw01_NumHouse.j1 kj2 bt1001.1 bt1005.1 true)))) = some r := by rw [if_neg (show ¬ (false = true) by decide)] at H; exact H
        clear H
        have H := H1
        clear H1
        replace H := Option.bind_eq_some_iff.mp H
        obtain ⟨⟨t1001, t1002⟩, A90, H⟩ := H
        replace H : ((num_Divide.f kj2 (wrap64 (a0 + 1)) l1).bind fun bt1005 => (if t1002 = 0 then (merinolaw01_NumHouse.j1 kj2 t1001 bt1005.1 (bt1005.2 != 0)) else (merinolaw01_NumHouse.j1 kj2 t1001 bt1005.1 true))) = some r := H
        have A9 := Aside0.mk A90
        clear A90
        replace H := Option.bind_eq_some_iff.mp H
        obtain ⟨⟨t1005, t1006⟩, A100, H⟩ := H
        replace H : (if t1002 = 0 then (merinolaw01_NumHouse.j1 kj2 t1001 t1005 (t1006 != 0)) else (merinolaw01_NumHouse.j1 kj2 t1001 t1005 true)) = some r := H
        have A10 := Aside0.mk A100
        clear A100
        have HC11 := Aside0.mk H
        clear H
        go_upto_region 5 with (first | (go_at_call 49; (with_reducible refine (num_Divide.calls kj2 a0 _ _ l1 t1001 t1002 _ ?side1 ?side2 A9.out).mono ?_); (case side1 => repeat (first | exact (Kd.C_below HR1.out HB.out) | (with_reducible refine Kd.C_alloc ?_ _) | (with_reducible refine Kd.C_drewN ?_ _) | (with_reducible refine Kd.C_drew ?_))); (case side2 => exact HC1.out); rintro e w12 ⟨v1003, rfl, ho0, hb⟩; have n0_ := Aside0.mk (Kd.R_lower ho0 (below_size (by repeat (first | (with_reducible first | exact HB.out | apply below_alloc | apply pw_below_drewN | apply below_drew1) | exact HB.out)))); have n1_ := Aside0.mk (below_step (by repeat (first | (with_reducible first | exact HB.out | apply below_alloc | apply pw_below_drewN | apply below_drew1) | exact HB.out)) hb); clear HB; have HO1004 := n0_; have HB := n1_; clear n0_ n1_; (try clear hb); (try clear hb2); (try clear hk); (try clear hi); (try clear ho0)) | (go_at_call 49; (with_reducible refine (num_Divide.calls kj2 (wrap64 (a0 + 1)) _ _ l1 t1005 t1006 _ ?side1 ?side2 A10.out).mono ?_); (case side1 => repeat (first | exact (Kd.C_below HR1.out HB.out) | (with_reducible refine Kd.C_alloc ?_ _) | (with_reducible refine Kd.C_drewN ?_ _) | (with_reducible refine Kd.C_drew ?_))); (case side2 => exact HC1.out); rintro e w13 ⟨v1007, rfl, ho0, hb⟩; have n0_ := Aside0.mk (Kd.R_elder' (by (with_reducible repeat (first | apply Kd.R_alloc | apply Kd.R_drewN | apply Kd.R_drew)); exact HO1004.out) (Kd.R_base ho0) hb); have n1_ := Aside0.mk (Kd.R_lower (Kd.R_new' ho0 (Kd.R_lt (by (with_reducible repeat (first | apply Kd.R_alloc | apply Kd.R_drewN | apply Kd.R_drew)); exact HO1004.out))) (below_size (by repeat (first | (with_reducible first | exact HB.out | apply below_alloc | apply pw_below_drewN | apply below_drew1) | exact HB.out)))); have n2_ := Aside0.mk (below_step (by repeat (first | (with_reducible first | exact HB.out | apply below_alloc | apply pw_below_drewN | apply below_drew1) | exact HB.out)) hb); clear HO1004; clear HB; have HO1004 := n0_; have HO1008 := n1_; have HB := n2_; clear n0_ n1_ n2_; (try clear hb); (try clear hb2); (try clear hk); (try clear hi); (try clear ho0)))
        repeat (go_quiet (first | (go_at_call 49; (with_reducible refine (num_Divide.calls kj2 a0 _ _ l1 t1001 t1002 _ ?side1 ?side2 A9.out).mono ?_); (case side1 => repeat (first | exact (Kd.C_below HR1.out HB.out) | (with_reducible refine Kd.C_alloc ?_ _) | (with_reducible refine Kd.C_drewN ?_ _) | (with_reducible refine Kd.C_drew ?_))); (case side2 => exact HC1.out); rintro e w12 ⟨v1003, rfl, ho0, hb⟩; have n0_ := Aside0.mk (Kd.R_lower ho0 (below_size (by repeat (first | (with_reducible first | exact HB.out | apply below_alloc | apply pw_below_drewN | apply below_drew1) | exact HB.out)))); have n1_ := Aside0.mk (below_step (by repeat (first | (with_reducible first | exact HB.out | apply below_alloc | apply pw_below_drewN | apply below_drew1) | exact HB.out)) hb); clear HB; have HO1004 := n0_; have HB := n1_; clear n0_ n1_; (try clear hb); (try clear hb2); (try clear hk); (try clear hi); (try clear ho0)) | (go_at_call 49; (with_reducible refine (num_Divide.calls kj2 (wrap64 (a0 + 1)) _ _ l1 t1005 t1006 _ ?side1 ?side2 A10.out).mono ?_); (case side1 => repeat (first | exact (Kd.C_below HR1.out HB.out) | (with_reducible refine Kd.C_alloc ?_ _) | (with_reducible refine Kd.C_drewN ?_ _) | (with_reducible refine Kd.C_drew ?_))); (case side2 => exact HC1.out); rintro e w13 ⟨v1007, rfl, ho0, hb⟩; have n0_ := Aside0.mk (Kd.R_elder' (by (with_reducible repeat (first | apply Kd.R_alloc | apply Kd.R_drewN | apply Kd.R_drew)); exact HO1004.out) (Kd.R_base ho0) hb); have n1_ := Aside0.mk (Kd.R_lower (Kd.R_new' ho0 (Kd.R_lt (by (with_reducible repeat (first | apply Kd.R_alloc | apply Kd.R_drewN | apply Kd.R_drew)); exact HO1004.out))) (below_size (by repeat (first | (with_reducible first | exact HB.out | apply below_alloc | apply pw_below_drewN | apply below_drew1) | exact HB.out)))); have n2_ := Aside0.mk (below_step (by repeat (first | (with_reducible first | exact HB.out | apply below_alloc | apply pw_below_drewN | apply below_drew1) | exact HB.out)) hb); clear HO1004; clear HB; have HO1004 := n0_; have HO1008 := n1_; have HB := n2_; clear n0_ n1_ n2_; (try clear hb); (try clear hb2); (try clear hk); (try clear hi); (try clear ho0))); go_upto_region 5 with (first | (go_at_call 49; (with_reducible refine (num_Divide.calls kj2 a0 _ _ l1 t1001 t1002 _ ?side1 ?side2 A9.out).mono ?_); (case side1 => repeat (first | exact (Kd.C_below HR1.out HB.out) | (with_reducible refine Kd.C_alloc ?_ _) | (with_reducible refine Kd.C_drewN ?_ _) | (with_reducible refine Kd.C_drew ?_))); (case side2 => exact HC1.out); rintro e w12 ⟨v1003, rfl, ho0, hb⟩; have n0_ := Aside0.mk (Kd.R_lower ho0 (below_size (by repeat (first | (with_reducible first | exact HB.out | apply below_alloc | apply pw_below_drewN | apply below_drew1) | exact HB.out)))); have n1_ := Aside0.mk (below_step (by repeat (first | (with_reducible first | exact HB.out | apply below_alloc | apply pw_below_drewN | apply below_drew1) | exact HB.out)) hb); clear HB; have HO1004 := n0_; have HB := n1_; clear n0_ n1_; (try clear hb); (try clear hb2); (try clear hk); (try clear hi); (try clear ho0)) | (go_at_call 49; (with_reducible refine (num_Divide.calls kj2 (wrap64 (a0 + 1)) _ _ l1 t1005 t1006 _ ?side1 ?side2 A10.out).mono ?_); (case side1 => repeat (first | exact (Kd.C_below HR1.out HB.out) | (with_reducible refine Kd.C_alloc ?_ _) | (with_reducible refine Kd.C_drewN ?_ _) | (with_reducible refine Kd.C_drew ?_))); (case side2 => exact HC1.out); rintro e w13 ⟨v1007, rfl, ho0, hb⟩; have n0_ := Aside0.mk (Kd.R_elder' (by (with_reducible repeat (first | apply Kd.R_alloc | apply Kd.R_drewN | apply Kd.R_drew)); exact HO1004.out) (Kd.R_base ho0) hb); have n1_ := Aside0.mk (Kd.R_lower (Kd.R_new' ho0 (Kd.R_lt (by (with_reducible repeat (first | apply Kd.R_alloc | apply Kd.R_drewN | apply Kd.R_drew)); exact HO1004.out))) (below_size (by repeat (first | (with_reducible first | exact HB.out | apply below_alloc | apply pw_below_drewN | apply below_drew1) | exact HB.out)))); have n2_ := Aside0.mk (below_step (by repeat (first | (with_reducible first | exact HB.out | apply below_alloc | apply pw_below_drewN | apply below_drew1) | exact HB.out)) hb); clear HO1004; clear HB; have HO1004 := n0_; have HO1008 := n1_; have HB := n2_; clear n0_ n1_ n2_; (try clear hb); (try clear hb2); (try clear hk); (try clear hi); (try clear ho0))))
        (try simp only [Act.put, List.setIfInBounds_toArray, List.set_cons_zero, List.set_cons_succ])
        go_cut [37] (fun v37 wc => ∃ (kq : Nat) (x37_10 : Bool), v37 = .bool x37_10 ∧ Aside0 (merinolaw01_NumHouse.j1 kq t1001 t1005 x37_10 = some r) ∧ Aside0 (kq ≤ kj2) ∧ Aside0 (Kd.R (Kd.int .i64) 3 wc w.heap.size (fun k_ => some k_ ≠ (v1007 : Value).ownBlock) v1003 t1001) ∧ Aside0 (Kd.R (Kd.int .i64) 3 wc w.heap.size (fun k_ => some k_ ≠ (v1003 : Value).ownBlock) v1007 t1005) ∧ Aside0 (Below w.heap.size w wc))
        case first =>
          have H := HC11.out
          clear HC11
          by_cases c14 : t1002 = 0
          · rw [if_pos c14] at H
            have c14b0 : (t1002 == 0) = true := beq_iff_eq.mpr c14
            have c14b1 : (t1002 != 0) = false := bne_eq_false_iff_eq.mpr c14
            clear c14
            (first | rw [c14b0] | (simp only [i64_w, i32_w]; rw [c14b0]) | skip)
            have H' := Aside0.mk H
            clear H
            go_wp2
            repeat (go_quiet (fail); try go_wp2)
            go_meet
            case rel => exact ⟨_, ((t1006 != 0)), (by first | rfl | (simp; done) | (simp [*]; done)), H', ⟨by have := HJ2.out; first | omega | exact Nat.le_refl _⟩, ⟨by (with_reducible repeat (first | apply Kd.R_alloc | apply Kd.R_drewN | apply Kd.R_drew)); exact Kd.R_mono HO1004.out (fun _ hk => hk.2)⟩, ⟨by (with_reducible repeat (first | apply Kd.R_alloc | apply Kd.R_drewN | apply Kd.R_drew)); exact Kd.R_mono HO1008.out (fun _ hk => hk.2)⟩, ⟨by repeat (first | (with_reducible first | exact HB.out | apply below_alloc | apply pw_below_drewN | apply below_drew1) | exact HB.out)⟩⟩
          · rw [if_neg c14] at H
            have c14b0 : (t1002 == 0) = false := beq_eq_false_iff_ne.mpr c14
            have c14b1 : (t1002 != 0) = true := bne_iff_ne.mpr c14
            (first | rw [c14b0] | (simp only [i64_w, i32_w]; rw [c14b0]) | skip)
            have H' := Aside0.mk H
            clear H
            go_wp2
            repeat (go_quiet (fail); try go_wp2)
            go_meet
            case rel => exact ⟨_, (true), (by first | rfl | (simp; done) | (simp [*]; done)), H', ⟨by have := HJ2.out; first | omega | exact Nat.le_refl _⟩, ⟨by (with_reducible repeat (first | apply Kd.R_alloc | apply Kd.R_drewN | apply Kd.R_drew)); exact Kd.R_mono HO1004.out (fun _ hk => hk.2)⟩, ⟨by (with_reducible repeat (first | apply Kd.R_alloc | apply Kd.R_drewN | apply Kd.R_drew)); exact Kd.R_mono HO1008.out (fun _ hk => hk.2)⟩, ⟨by repeat (first | (with_reducible first | exact HB.out | apply below_alloc | apply pw_below_drewN | apply below_drew1) | exact HB.out)⟩⟩
        case rest =>
          clear HC11
          try clear c1
          try clear p2
          try clear c5
          try clear c6
          try clear p6
          try clear c12
          try clear c14
          try clear c14b0
          try clear c14b1
          try clear p2
          obtain ⟨kq, x37_10, rfl, HA, HJ10, HO_5, HO_7, HB⟩ := hcut
          cases kq with
          | zero => exact absurd HA.out (by simp [merinolaw01_NumHouse.j1])
          | succ kj10 =>
            have H := HA.out
            clear HA
            simp only [merinolaw01_NumHouse.j1] at H
            by_cases c15 : x37_10 = true
            · subst c15
              have H1 : ((merinolaw01_alive.f).bind fun t1009 => (some t1009)) = some r := by rw [if_pos rfl] at H; exact H
              clear H
              have H := H1
              clear H1
              replace H := Option.bind_eq_some_iff.mp H
              obtain ⟨t1009, A160, H⟩ := H
              replace H : (some t1009) = some r := H
              have A16 := Aside0.mk A160
              clear A160
              obtain rfl := Option.some.inj H
              go_wp2_with (first | (go_at_call 21; (with_reducible refine (merinolaw01_alive.calls  t1009 _ A16.out).mono ?_); rintro e w17 ⟨rfl, hb⟩; have n0_ := Aside0.mk (Kd.R_below (by (with_reducible repeat (first | apply Kd.R_alloc | apply Kd.R_drewN | apply Kd.R_drew)); exact HO_5.out) hb); have n1_ := Aside0.mk (Kd.R_below (by (with_reducible repeat (first | apply Kd.R_alloc | apply Kd.R_drewN | apply Kd.R_drew)); exact HO_7.out) hb); have n2_ := Aside0.mk (below_step (by repeat (first | (with_reducible first | exact HB.out | apply below_alloc | apply pw_below_drewN | apply below_drew1) | exact HB.out)) hb); clear HO_5; clear HO_7; clear HB; have HO_5 := n0_; have HO_7 := n1_; have HB := n2_; clear n0_ n1_ n2_; (try clear hb); (try clear hb2); (try clear hk); (try clear hi)))
              repeat (go_quiet (first | (go_at_call 21; (with_reducible refine (merinolaw01_alive.calls  t1009 _ A16.out).mono ?_); rintro e w17 ⟨rfl, hb⟩; have n0_ := Aside0.mk (Kd.R_below (by (with_reducible repeat (first | apply Kd.R_alloc | apply Kd.R_drewN | apply Kd.R_drew)); exact HO_5.out) hb); have n1_ := Aside0.mk (Kd.R_below (by (with_reducible repeat (first | apply Kd.R_alloc | apply Kd.R_drewN | apply Kd.R_drew)); exact HO_7.out) hb); have n2_ := Aside0.mk (below_step (by repeat (first | (with_reducible first | exact HB.out | apply below_alloc | apply pw_below_drewN | apply below_drew1) | exact HB.out)) hb); clear HO_5; clear HO_7; clear HB; have HO_5 := n0_; have HO_7 := n1_; have HB := n2_; clear n0_ n1_ n2_; (try clear hb); (try clear hb2); (try clear hk); (try clear hi))); try go_wp2_with (first | (go_at_call 21; (with_reducible refine (merinolaw01_alive.calls  t1009 _ A16.out).mono ?_); rintro e w17 ⟨rfl, hb⟩; have n0_ := Aside0.mk (Kd.R_below (by (with_reducible repeat (first | apply Kd.R_alloc | apply Kd.R_drewN | apply Kd.R_drew)); exact HO_5.out) hb); have n1_ := Aside0.mk (Kd.R_below (by (with_reducible repeat (first | apply Kd.R_alloc | apply Kd.R_drewN | apply Kd.R_drew)); exact HO_7.out) hb); have n2_ := Aside0.mk (below_step (by repeat (first | (with_reducible first | exact HB.out | apply below_alloc | apply pw_below_drewN | apply below_drew1) | exact HB.out)) hb); clear HO_5; clear HO_7; clear HB; have HO_5 := n0_; have HO_7 := n1_; have HB := n2_; clear n0_ n1_ n2_; (try clear hb); (try clear hb2); (try clear hk); (try clear hi))))
              go_ret
              exact ⟨by first | rfl | (simp [errW_none, errW_some] <;> rfl) | (simp [*, errW_none, errW_some] <;> rfl), by repeat (first | (with_reducible first | exact HB.out | apply below_alloc | apply pw_below_drewN | apply below_drew1) | exact HB.out)⟩
            · replace c15 := Bool.eq_false_iff.mpr c15
              subst c15
              have H1 : (if (t1001.length : Int) = (t1005.length : Int) then (merinolaw01_NumHouse.l0 kj10 t1001 t1005 0 0) else (some false)) = some r := by rw [if_neg (show ¬ (false = true) by decide)] at H; exact H
              clear H
              have H := H1
              clear H1
              by_cases c18 : (t1001.length : Int) = (t1005.length : Int)
              · rw [if_pos c18] at H
                have c18b0 : ((t1001.length : Int) == (t1005.length : Int)) = true := beq_iff_eq.mpr c18
                have c18b1 : ((t1001.length : Int) != (t1005.length : Int)) = false := bne_eq_false_iff_eq.mpr c18
                have c18b2 : (t1001.length == t1005.length) = true := by first | simpa using c18 | (simp at c18 ⊢; omega)
                clear c18
                have H' := Aside0.mk H
                clear H
                obtain ⟨Ao19, co19, eo19⟩ := Kd.R_slice HO_5.out
                subst eo19
                obtain ⟨Ao20, co20, eo20⟩ := Kd.R_slice HO_7.out
                subst eo20
                go_wp2
                repeat (go_quiet (fail); try go_wp2)
                go_loopg [9, 10] kj10 (fun kq v9 v10 w' => ∃ (x9_3 : Int) (x10_3 : Int), v9 = .int .i64 x9_3 ∧ v10 = .int .i64 x10_3 ∧ Aside0 (merinolaw01_NumHouse.l0 kq t1001 t1005 x9_3 x10_3 = some r) ∧ Aside0 (kq ≤ kj10) ∧ Aside0 (Kd.R (Kd.int .i64) 3 w' w.heap.size (fun k_ => some k_ ≠ ((.slice Ao20 t1005.length co20) : Value).ownBlock) (.slice Ao19 t1001.length co19) t1001) ∧ Aside0 (Kd.R (Kd.int .i64) 3 w' w.heap.size (fun k_ => some k_ ≠ ((.slice Ao19 t1001.length co19) : Value).ownBlock) (.slice Ao20 t1005.length co20) t1005) ∧ Aside0 (Below w.heap.size w w'))
                case atStart => exact ⟨(0), (0), (by first | rfl | (simp; done) | (simp [*]; done)), (by first | rfl | (simp; done) | (simp [*]; done)), H', ⟨Nat.le_refl _⟩, ⟨by (with_reducible repeat (first | apply Kd.R_alloc | apply Kd.R_drewN | apply Kd.R_drew)); exact HO_5.out⟩, ⟨by (with_reducible repeat (first | apply Kd.R_alloc | apply Kd.R_drewN | apply Kd.R_drew)); exact HO_7.out⟩, ⟨by repeat (first | (with_reducible first | exact HB.out | apply below_alloc | apply pw_below_drewN | apply below_drew1) | exact HB.out)⟩⟩
                case round =>
                  clear H'
                  try clear c1
                  try clear p2
                  try clear c5
                  try clear c6
                  try clear p6
                  try clear c12
                  try clear c14
                  try clear c14b0
                  try clear c14b1
                  try clear c15
                  try clear c18
                  try clear c18b0
                  try clear c18b1
                  try clear c18b2
                  try clear p2
                  try clear p6
                  obtain ⟨x9_3, x10_3, rfl, rfl, HA, HK3, HO_5, HO_7, HB⟩ := hrel
                  cases gk with
                  | zero => exact absurd HA.out (by simp [merinolaw01_NumHouse.l0])
                  | succ k3 =>
                    have H := HA.out
                    clear HA
                    simp only [merinolaw01_NumHouse.l0] at H
                    by_cases c21 : x10_3 < (t1001.length : Int)
                    · rw [if_pos c21] at H
                      have c21b0 : decide (x10_3 < (t1001.length : Int)) = true := decide_eq_true c21
                      clear c21
                      by_cases c22 : 0 ≤ x10_3
                      · rw [if_pos c22] at H
                        have c22b0 : decide (0 ≤ x10_3) = true := decide_eq_true c22
                        clear c22
                        by_cases c23 : x10_3 < (t1005.length : Int)
                        · rw [if_pos c23] at H
                          have c23b0 : decide (x10_3 < (t1005.length : Int)) = true := decide_eq_true c23
                          clear c23
                          by_cases c24 : (rd t1005 x10_3) = (rd t1001 x10_3)
                          · rw [if_pos c24] at H
                            have c24b0 : ((rd t1005 x10_3) == (rd t1001 x10_3)) = true := beq_iff_eq.mpr c24
                            have c24b1 : ((rd t1005 x10_3) != (rd t1001 x10_3)) = false := bne_eq_false_iff_eq.mpr c24
                            clear c24
                            have H' := Aside0.mk H
                            clear H
                            have p1010 : 0 ≤ (x10_3 : Int) := of_decide_eq_true (by first | (with_reducible assumption) | assumption)
                            have q1010 : x10_3 < (t1005.length : Int) := of_decide_eq_true (by first | (with_reducible assumption) | assumption)
                            obtain ⟨ad1010, e1010, hx1010_0⟩ := Kd.at_int (Kd.R_reads' HO_7.out).2.2 x10_3 p1010 q1010
                            cases e1010
                            replace p1010 := eq_true p1010
                            replace q1010 := eq_true q1010
                            have p1011 : 0 ≤ (x10_3 : Int) := of_decide_eq_true (by first | (with_reducible assumption) | assumption)
                            have q1011 : x10_3 < (t1001.length : Int) := of_decide_eq_true (by first | (with_reducible assumption) | assumption)
                            obtain ⟨ad1011, e1011, hx1011_0⟩ := Kd.at_int (Kd.R_reads' HO_5.out).2.2 x10_3 p1011 q1011
                            cases e1011
                            replace p1011 := eq_true p1011
                            replace q1011 := eq_true q1011
                            have p1012 : 0 ≤ (x10_3 : Int) := of_decide_eq_true (by first | (with_reducible assumption) | assumption)
                            have q1012 : x10_3 < (t1005.length : Int) := of_decide_eq_true (by first | (with_reducible assumption) | assumption)
                            obtain ⟨ad1012, e1012, hx1012_0⟩ := Kd.at_int (Kd.R_reads' HO_7.out).2.2 x10_3 p1012 q1012
                            obtain rfl : ad1010 = ad1012 := (by injection e1012)
                            replace p1012 := eq_true p1012
                            replace q1012 := eq_true q1012
                            have p1013 : 0 ≤ (x10_3 : Int) := of_decide_eq_true (by first | (with_reducible assumption) | assumption)
                            have q1013 : x10_3 < (t1001.length : Int) := of_decide_eq_true (by first | (with_reducible assumption) | assumption)
                            obtain ⟨ad1013, e1013, hx1013_0⟩ := Kd.at_int (Kd.R_reads' HO_5.out).2.2 x10_3 p1013 q1013
                            obtain rfl : ad1011 = ad1013 := (by injection e1013)
                            replace p1013 := eq_true p1013
                            replace q1013 := eq_true q1013
                            go_wp2
                            repeat (go_quiet (fail); try go_wp2)
                            go_roundg k3
                            case measure => have := HJ2.out; have := HJ10.out; have := HK3.out; omega
                            case rel => exact ⟨(wrap64 (x9_3 + (wrap64 ((rd t1005 x10_3) - (rd t1001 x10_3))))), (wrap64 (x10_3 + 1)), (by first | rfl | (simp; done) | (simp [*]; done)), (by first | rfl | (simp; done) | (simp [*]; done)), H', ⟨by have := HJ2.out; have := HJ10.out; have := HK3.out; omega⟩, ⟨by (with_reducible repeat (first | apply Kd.R_alloc | apply Kd.R_drewN | apply Kd.R_drew)); exact HO_5.out⟩, ⟨by (with_reducible repeat (first | apply Kd.R_alloc | apply Kd.R_drewN | apply Kd.R_drew)); exact HO_7.out⟩, ⟨by repeat (first | (with_reducible first | exact HB.out | apply below_alloc | apply pw_below_drewN | apply below_drew1) | exact HB.out)⟩⟩
                          · rw [if_neg c24] at H
                            have c24b0 : ((rd t1005 x10_3) == (rd t1001 x10_3)) = false := beq_eq_false_iff_ne.mpr c24
                            have c24b1 : ((rd t1005 x10_3) != (rd t1001 x10_3)) = true := bne_iff_ne.mpr c24
                            by_cases c25 : (rd t1005 x10_3) = (wrap64 ((rd t1001 x10_3) + 1))
                            · rw [if_pos c25] at H
                              have c25b0 : ((rd t1005 x10_3) == (wrap64 ((rd t1001 x10_3) + 1))) = true := beq_iff_eq.mpr c25
                              have c25b1 : ((rd t1005 x10_3) != (wrap64 ((rd t1001 x10_3) + 1))) = false := bne_eq_false_iff_eq.mpr c25
                              clear c25
                              have H' := Aside0.mk H
                              clear H
                              have p1010 : 0 ≤ (x10_3 : Int) := of_decide_eq_true (by first | (with_reducible assumption) | assumption)
                              have q1010 : x10_3 < (t1005.length : Int) := of_decide_eq_true (by first | (with_reducible assumption) | assumption)
                              obtain ⟨ad1010, e1010, hx1010_0⟩ := Kd.at_int (Kd.R_reads' HO_7.out).2.2 x10_3 p1010 q1010
                              cases e1010
                              replace p1010 := eq_true p1010
                              replace q1010 := eq_true q1010
                              have p1011 : 0 ≤ (x10_3 : Int) := of_decide_eq_true (by first | (with_reducible assumption) | assumption)
                              have q1011 : x10_3 < (t1001.length : Int) := of_decide_eq_true (by first | (with_reducible assumption) | assumption)
                              obtain ⟨ad1011, e1011, hx1011_0⟩ := Kd.at_int (Kd.R_reads' HO_5.out).2.2 x10_3 p1011 q1011
                              cases e1011
                              replace p1011 := eq_true p1011
                              replace q1011 := eq_true q1011
                              have p1014 : 0 ≤ (x10_3 : Int) := of_decide_eq_true (by first | (with_reducible assumption) | assumption)
                              have q1014 : x10_3 < (t1005.length : Int) := of_decide_eq_true (by first | (with_reducible assumption) | assumption)
                              obtain ⟨ad1014, e1014, hx1014_0⟩ := Kd.at_int (Kd.R_reads' HO_7.out).2.2 x10_3 p1014 q1014
                              obtain rfl : ad1010 = ad1014 := (by injection e1014)
                              replace p1014 := eq_true p1014
                              replace q1014 := eq_true q1014
                              have p1015 : 0 ≤ (x10_3 : Int) := of_decide_eq_true (by first | (with_reducible assumption) | assumption)
                              have q1015 : x10_3 < (t1001.length : Int) := of_decide_eq_true (by first | (with_reducible assumption) | assumption)
                              obtain ⟨ad1015, e1015, hx1015_0⟩ := Kd.at_int (Kd.R_reads' HO_5.out).2.2 x10_3 p1015 q1015
                              obtain rfl : ad1011 = ad1015 := (by injection e1015)
                              replace p1015 := eq_true p1015
                              replace q1015 := eq_true q1015
                              have p1016 : 0 ≤ (x10_3 : Int) := of_decide_eq_true (by first | (with_reducible assumption) | assumption)
                              have q1016 : x10_3 < (t1005.length : Int) := of_decide_eq_true (by first | (with_reducible assumption) | assumption)
                              obtain ⟨ad1016, e1016, hx1016_0⟩ := Kd.at_int (Kd.R_reads' HO_7.out).2.2 x10_3 p1016 q1016
                              obtain rfl : ad1010 = ad1016 := (by injection e1016)
                              replace p1016 := eq_true p1016
                              replace q1016 := eq_true q1016
                              have p1017 : 0 ≤ (x10_3 : Int) := of_decide_eq_true (by first | (with_reducible assumption) | assumption)
                              have q1017 : x10_3 < (t1001.length : Int) := of_decide_eq_true (by first | (with_reducible assumption) | assumption)
                              obtain ⟨ad1017, e1017, hx1017_0⟩ := Kd.at_int (Kd.R_reads' HO_5.out).2.2 x10_3 p1017 q1017
                              obtain rfl : ad1011 = ad1017 := (by injection e1017)
                              replace p1017 := eq_true p1017
                              replace q1017 := eq_true q1017
                              go_wp2
                              repeat (go_quiet (fail); try go_wp2)
                              go_roundg k3
                              case measure => have := HJ2.out; have := HJ10.out; have := HK3.out; omega
                              case rel => exact ⟨(wrap64 (x9_3 + (wrap64 ((rd t1005 x10_3) - (rd t1001 x10_3))))), (wrap64 (x10_3 + 1)), (by first | rfl | (simp; done) | (simp [*]; done)), (by first | rfl | (simp; done) | (simp [*]; done)), H', ⟨by have := HJ2.out; have := HJ10.out; have := HK3.out; omega⟩, ⟨by (with_reducible repeat (first | apply Kd.R_alloc | apply Kd.R_drewN | apply Kd.R_drew)); exact HO_5.out⟩, ⟨by (with_reducible repeat (first | apply Kd.R_alloc | apply Kd.R_drewN | apply Kd.R_drew)); exact HO_7.out⟩, ⟨by repeat (first | (with_reducible first | exact HB.out | apply below_alloc | apply pw_below_drewN | apply below_drew1) | exact HB.out)⟩⟩
                            · rw [if_neg c25] at H
                              have c25b0 : ((rd t1005 x10_3) == (wrap64 ((rd t1001 x10_3) + 1))) = false := beq_eq_false_iff_ne.mpr c25
                              have c25b1 : ((rd t1005 x10_3) != (wrap64 ((rd t1001 x10_3) + 1))) = true := bne_iff_ne.mpr c25
                              obtain rfl := Option.some.inj H
                              have p1010 : 0 ≤ (x10_3 : Int) := of_decide_eq_true (by first | (with_reducible assumption) | assumption)
                              have q1010 : x10_3 < (t1005.length : Int) := of_decide_eq_true (by first | (with_reducible assumption) | assumption)
                              obtain ⟨ad1010, e1010, hx1010_0⟩ := Kd.at_int (Kd.R_reads' HO_7.out).2.2 x10_3 p1010 q1010
                              cases e1010
                              replace p1010 := eq_true p1010
                              replace q1010 := eq_true q1010
                              have p1011 : 0 ≤ (x10_3 : Int) := of_decide_eq_true (by first | (with_reducible assumption) | assumption)
                              have q1011 : x10_3 < (t1001.length : Int) := of_decide_eq_true (by first | (with_reducible assumption) | assumption)
                              obtain ⟨ad1011, e1011, hx1011_0⟩ := Kd.at_int (Kd.R_reads' HO_5.out).2.2 x10_3 p1011 q1011
                              cases e1011
                              replace p1011 := eq_true p1011
                              replace q1011 := eq_true q1011
                              have p1014 : 0 ≤ (x10_3 : Int) := of_decide_eq_true (by first | (with_reducible assumption) | assumption)
                              have q1014 : x10_3 < (t1005.length : Int) := of_decide_eq_true (by first | (with_reducible assumption) | assumption)
                              obtain ⟨ad1014, e1014, hx1014_0⟩ := Kd.at_int (Kd.R_reads' HO_7.out).2.2 x10_3 p1014 q1014
                              obtain rfl : ad1010 = ad1014 := (by injection e1014)
                              replace p1014 := eq_true p1014
                              replace q1014 := eq_true q1014
                              have p1015 : 0 ≤ (x10_3 : Int) := of_decide_eq_true (by first | (with_reducible assumption) | assumption)
                              have q1015 : x10_3 < (t1001.length : Int) := of_decide_eq_true (by first | (with_reducible assumption) | assumption)
                              obtain ⟨ad1015, e1015, hx1015_0⟩ := Kd.at_int (Kd.R_reads' HO_5.out).2.2 x10_3 p1015 q1015
                              obtain rfl : ad1011 = ad1015 := (by injection e1015)
                              replace p1015 := eq_true p1015
                              replace q1015 := eq_true q1015
                              go_wp2
                              repeat (go_quiet (fail); try go_wp2)
                              go_ret
                              exact ⟨by first | rfl | (simp [errW_none, errW_some] <;> rfl) | (simp [*, errW_none, errW_some] <;> rfl), by repeat (first | (with_reducible first | exact HB.out | apply below_alloc | apply pw_below_drewN | apply below_drew1) | exact HB.out)⟩
                        · rw [if_neg c23] at H
                          exact absurd H (by simp)
                      · rw [if_neg c22] at H
                        exact absurd H (by simp)
                    · rw [if_neg c21] at H
                      have c21b0 : decide (x10_3 < (t1001.length : Int)) = false := decide_eq_false c21
                      clear c21
                      by_cases c26 : x9_3 = 1
                      · rw [if_pos c26] at H
                        have c26b0 : (x9_3 == 1) = true := beq_iff_eq.mpr c26
                        have c26b1 : (x9_3 != 1) = false := bne_eq_false_iff_eq.mpr c26
                        clear c26
                        replace H := Option.bind_eq_some_iff.mp H
                        obtain ⟨t1018, A270, H⟩ := H
                        replace H : (some t1018) = some r := H
                        have A27 := Aside0.mk A270
                        clear A270
                        obtain rfl := Option.some.inj H
                        go_wp2_with (first | (go_at_call 21; (with_reducible refine (merinolaw01_alive.calls  t1018 _ A27.out).mono ?_); rintro e w28 ⟨rfl, hb⟩; have n0_ := Aside0.mk (Kd.R_below (by (with_reducible repeat (first | apply Kd.R_alloc | apply Kd.R_drewN | apply Kd.R_drew)); exact HO_5.out) hb); have n1_ := Aside0.mk (Kd.R_below (by (with_reducible repeat (first | apply Kd.R_alloc | apply Kd.R_drewN | apply Kd.R_drew)); exact HO_7.out) hb); have n2_ := Aside0.mk (below_step (by repeat (first | (with_reducible first | exact HB.out | apply below_alloc | apply pw_below_drewN | apply below_drew1) | exact HB.out)) hb); clear HO_5; clear HO_7; clear HB; have HO_5 := n0_; have HO_7 := n1_; have HB := n2_; clear n0_ n1_ n2_; (try clear hb); (try clear hb2); (try clear hk); (try clear hi)))
                        repeat (go_quiet (first | (go_at_call 21; (with_reducible refine (merinolaw01_alive.calls  t1018 _ A27.out).mono ?_); rintro e w28 ⟨rfl, hb⟩; have n0_ := Aside0.mk (Kd.R_below (by (with_reducible repeat (first | apply Kd.R_alloc | apply Kd.R_drewN | apply Kd.R_drew)); exact HO_5.out) hb); have n1_ := Aside0.mk (Kd.R_below (by (with_reducible repeat (first | apply Kd.R_alloc | apply Kd.R_drewN | apply Kd.R_drew)); exact HO_7.out) hb); have n2_ := Aside0.mk (below_step (by repeat (first | (with_reducible first | exact HB.out | apply below_alloc | apply pw_below_drewN | apply below_drew1) | exact HB.out)) hb); clear HO_5; clear HO_7; clear HB; have HO_5 := n0_; have HO_7 := n1_; have HB := n2_; clear n0_ n1_ n2_; (try clear hb); (try clear hb2); (try clear hk); (try clear hi))); try go_wp2_with (first | (go_at_call 21; (with_reducible refine (merinolaw01_alive.calls  t1018 _ A27.out).mono ?_); rintro e w28 ⟨rfl, hb⟩; have n0_ := Aside0.mk (Kd.R_below (by (with_reducible repeat (first | apply Kd.R_alloc | apply Kd.R_drewN | apply Kd.R_drew)); exact HO_5.out) hb); have n1_ := Aside0.mk (Kd.R_below (by (with_reducible repeat (first | apply Kd.R_alloc | apply Kd.R_drewN | apply Kd.R_drew)); exact HO_7.out) hb); have n2_ := Aside0.mk (below_step (by repeat (first | (with_reducible first | exact HB.out | apply below_alloc | apply pw_below_drewN | apply below_drew1) | exact HB.out)) hb); clear HO_5; clear HO_7; clear HB; have HO_5 := n0_; have HO_7 := n1_; have HB := n2_; clear n0_ n1_ n2_; (try clear hb); (try clear hb2); (try clear hk); (try clear hi))))
                        go_ret
                        exact ⟨by first | rfl | (simp [errW_none, errW_some] <;> rfl) | (simp [*, errW_none, errW_some] <;> rfl), by repeat (first | (with_reducible first | exact HB.out | apply below_alloc | apply pw_below_drewN | apply below_drew1) | exact HB.out)⟩
                      · rw [if_neg c26] at H
                        have c26b0 : (x9_3 == 1) = false := beq_eq_false_iff_ne.mpr c26
                        have c26b1 : (x9_3 != 1) = true := bne_iff_ne.mpr c26
                        obtain rfl := Option.some.inj H
                        go_wp2
                        repeat (go_quiet (fail); try go_wp2)
                        go_ret
                        exact ⟨by first | rfl | (simp [errW_none, errW_some] <;> rfl) | (simp [*, errW_none, errW_some] <;> rfl), by repeat (first | (with_reducible first | exact HB.out | apply below_alloc | apply pw_below_drewN | apply below_drew1) | exact HB.out)⟩
              · rw [if_neg c18] at H
                have c18b0 : ((t1001.length : Int) == (t1005.length : Int)) = false := beq_eq_false_iff_ne.mpr c18
                have c18b1 : ((t1001.length : Int) != (t1005.length : Int)) = true := bne_iff_ne.mpr c18
                have c18b2 : (t1001.length == t1005.length) = false := by first | simpa using c18 | (simp at c18 ⊢; omega)
                obtain rfl := Option.some.inj H
                obtain ⟨Ao29, co29, eo29⟩ := Kd.R_slice HO_5.out
                subst eo29
                obtain ⟨Ao30, co30, eo30⟩ := Kd.R_slice HO_7.out
                subst eo30
                go_wp2
                repeat (go_quiet (fail); try go_wp2)
                go_ret
                exact ⟨by first | rfl | (simp [errW_none, errW_some] <;> rfl) | (simp [*, errW_none, errW_some] <;> rfl), by repeat (first | (with_reducible first | exact HB.out | apply below_alloc | apply pw_below_drewN | apply below_drew1) | exact HB.out)⟩
end Go.Proofs.YtdjnneflpkllmaaDoor.Q

namespace Go.Proofs.Num
open Go.RowKit Go.Proofs.YtdjnneflpkllmaaDoorW.PrintWords Go.Proofs.YtdjnneflpkllmaaDoorW.PrintMore Go.Proofs.YtdjnneflpkllmaaDoor.Q
set_option linter.unusedVariables false
set_option linter.unusedSimpArgs false
theorem exists_next {n : Nat} {p w : Nat → Int} (hw : ∀ i, i < n → 0 ≤ w i) (hs : 0 < sumTo w n) : ∃ b, Next n p w b := by
  have all : ∀ m, m ≤ n → (∀ j, j < m → w j = 0) ∨ ∃ b, Next m p w b := by
    intro m
    induction m with
    | zero => intro _; exact Or.inl (fun j hj => by omega)
    | succ m ih =>
      intro hm
      have h0 := hw m (by omega)
      rcases ih (by omega) with h | ⟨b, hb, wb, ah⟩
      · by_cases c : w m = 0
        · refine Or.inl (fun j hj => ?_)
          rcases Nat.lt_or_ge j m with d | d
          · exact h j d
          · obtain rfl : j = m := by omega
            exact c
        · refine Or.inr ⟨m, by omega, by omega, fun j hj h1 h2 => ?_⟩
          have := h j (by omega)
          omega
      · by_cases c : w m = 0
        · refine Or.inr ⟨b, by omega, wb, fun j hj h1 h2 => ?_⟩
          rcases Nat.lt_or_ge j m with d | d
          · exact ah j d h1 h2
          · obtain rfl : j = m := by omega
            omega
        · by_cases lt : (2 * p m + 1) * w b < (2 * p b + 1) * w m
          · refine Or.inr ⟨m, by omega, by omega, fun j hj h1 h2 => ?_⟩
            have im : Ahead (2 * p m + 1) (w m) m (2 * p b + 1) (w b) b := Or.inl lt
            by_cases e : j = b
            · subst e; exact im
            · exact im.trans (ah j (by omega) h1 e) (by omega) wb h1
          · refine Or.inr ⟨b, by omega, wb, fun j hj h1 h2 => ?_⟩
            rcases Nat.lt_or_ge j m with d | d
            · exact ah j d h1 h2
            · obtain rfl : j = m := by omega
              rcases Int.lt_or_eq_of_le (Int.not_lt.1 lt) with g | g
              · exact Or.inl g
              · exact Or.inr ⟨g, hb⟩
  rcases all n (Nat.le_refl _) with h | h
  · exfalso
    obtain ⟨i, hi, pi⟩ := sumTo_pos hw hs
    have := h i hi
    omega
  · exact h
theorem house_l0 {a b : List Int} {m : Nat} (hl : a.length = b.length) (few : a.length ≤ 256) (hm : m < a.length) (ha : ∀ i, i < a.length → 0 ≤ at_ a i ∧ at_ a i ≤ 1125899906842624) (h : ∀ i, i < a.length → at_ b i = bump (at_ a) m 1 i) : ∀ (c i : Nat), a.length - i = c → i ≤ a.length →
    Ev (fun k => merinolaw01_NumHouse.l0 k a b (if i ≤ m then 0 else 1) (i : Int)) true := by
  intro c
  induction c with
  | zero =>
    intro i hc hi
    obtain rfl : i = a.length := by omega
    refine Ev.step (f := fun _ => some true) (fun k => ?_) (Ev.now _)
    rw [if_neg (show ¬ a.length ≤ m by omega), merinolaw01_NumHouse.l0, if_neg (by omega), if_pos rfl]
    rfl
  | succ c ih =>
    intro i hc hi
    have E := ih (i + 1) (by omega) (by omega)
    obtain ⟨a0, a1⟩ := ha i (by omega)
    have hb := h i (by omega)
    unfold bump at hb
    refine Ev.step (f := fun k => merinolaw01_NumHouse.l0 k a b (if i + 1 ≤ m then 0 else 1) ((i + 1 : Nat) : Int)) (fun k => ?_) E
    rw [merinolaw01_NumHouse.l0, if_pos (by omega), if_pos (by omega), if_pos (by omega), rd_nat, rd_nat, wd64 (x := (i : Int) + 1) (by omega) (by omega), show ((i : Int) + 1) = ((i + 1 : Nat) : Int) by omega]
    by_cases e : i = m
    · rw [if_pos e] at hb
      rw [hb, wd64 (x := at_ a i + 1) (by omega) (by omega), if_neg (by omega), if_pos rfl, if_pos (by omega), if_neg (by omega), show at_ a i + 1 - at_ a i = 1 by omega, wd64 (x := 1) (by omega) (by omega), wd64 (x := 0 + 1) (by omega) (by omega)]
      rfl
    · rw [if_neg e] at hb
      rw [hb, if_pos rfl, show at_ a i - at_ a i = 0 by omega, wd64 (x := 0) (by omega) (by omega)]
      by_cases d : i ≤ m
      · rw [if_pos d, if_pos (by omega), wd64 (x := 0 + 0) (by omega) (by omega)]; rfl
      · rw [if_neg d, if_neg (by omega), wd64 (x := 1 + 0) (by omega) (by omega)]; rfl
theorem house_true {N : Int} (hb : -9223372036854775808 ≤ N) (l : List Int) : ∃ k, merinolaw01_NumHouse.f k N l = some true := by
  apply Ev.rounds
  unfold merinolaw01_NumHouse.f
  have e0 : merinolaw01_few.f l = some (decide (l.length ≤ 300)) := by
    unfold merinolaw01_few.f
    simp only [Option.some.injEq, decide_eq_decide]
    omega
  simp only [e0, Option.bind_some]
  have skip : ∀ b : Bool, b = true → Ev (fun k => merinolaw01_NumHouse.j0 k N l b) true := fun b hb => Ev.step (f := fun _ => some true) (fun k => by rw [merinolaw01_NumHouse.j0, if_pos hb]; rfl) (Ev.now _)
  by_cases h1 : l.length ≤ 300
  · simp only [decide_eq_true h1, if_true]
    by_cases h2 : N ≥ 1125899906842624
    · exact skip _ (decide_eq_true h2)
    · skip
      simp only [decide_eq_false h2]
      obtain ⟨u, Eu, Du⟩ := divide_ok N l
      obtain ⟨v, Ev2, Dv⟩ := divide_ok (N + 1) l
      refine Ev.step (f := fun k => (num_Divide.f k N l).bind fun bt1001 => ((num_Divide.f k (N + 1) l).bind fun bt1005 => (if bt1001.2 = 0 then (merinolaw01_NumHouse.j1 k bt1001.1 bt1005.1 (bt1005.2 != 0)) else (merinolaw01_NumHouse.j1 k bt1001.1 bt1005.1 true)))) (fun k => ?_) (Ev.bind Eu (Ev.bind Ev2 ?_))
      · rw [merinolaw01_NumHouse.j0, if_neg (by decide), wd64 (x := N + 1) (by omega) (by omega)]
      · have off : ∀ (x y : List Int) (b : Bool), b = true → Ev (fun k => merinolaw01_NumHouse.j1 k x y b) true := fun x y b hb => Ev.step (f := fun _ => some true) (fun k => by rw [merinolaw01_NumHouse.j1, if_pos hb]; rfl) (Ev.now _)
        rcases Du with ⟨n1, rfl⟩ | ⟨z1, z2, len1, St1, s1⟩
        · simp only [if_neg n1]
          exact off _ _ _ rfl
        · simp only [if_pos z2]
          rcases Dv with ⟨n2, rfl⟩ | ⟨y1, y2, len2, St2, s2⟩
          · exact off _ _ _ (by simpa using n2)
          · obtain ⟨few, n0, n1, ww, hS, hz⟩ := weigh_ok z1
            obtain ⟨few', n0', n1', ww', hS', hz'⟩ := weigh_ok y1
            have sp := sumTo_nonneg (p := at_ l) (n := l.length) (fun i hi => (ww i hi).1)
            obtain ⟨m, B⟩ := exists_next (p := at_ u.1) (w := at_ l) (n := l.length) (fun i hi => (ww i hi).1) (by omega)
            have St3 := St1.up B
            have s3 := sumTo_bump (at_ u.1) m 1 l.length B.1
            have same := St2.uniq St3 (by omega)
            have hm := B.1
            have E := house_l0 (a := u.1) (b := v.1) (m := m) (by omega) (by omega) (by omega) (fun i hi => ⟨St1.nn i (by omega), by have := sum_le St1.nn (Int.le_of_eq s1) i (by omega); omega⟩) (fun i hi => same i (by omega)) u.1.length 0 rfl (by omega)
            refine Ev.step (f := fun k => merinolaw01_NumHouse.l0 k u.1 v.1 0 ((0 : Nat) : Int)) (fun k => ?_) (by rw [if_pos (by omega)] at E; exact E)
            rw [y2, merinolaw01_NumHouse.j1, if_neg (by decide), if_pos (by omega)]
            rfl
  · simp only [decide_eq_false h1, Bool.false_eq_true, if_false]
    exact skip _ rfl
end Go.Proofs.Num
namespace Go.Proofs.Num
open Go.RowKit Go.Proofs.YtdjnneflpkllmaaDoorW.PrintWords Go.Proofs.YtdjnneflpkllmaaDoorW.PrintMore Go.Proofs.YtdjnneflpkllmaaDoor.Q
/-- The law, called. -/
theorem walk_NumHouse {a0 : Int} (h0 : -9223372036854775808 ≤ a0) (A1 : Option Addr) (c1 : Nat) (l1 : List Int) (w : World) (hr1 : Kd.C (Kd.int .i64) w A1 l1.length l1) (hc1 : l1.length ≤ c1) :
    Calls Tryd.prog 12 #[.int .i64 a0, .slice A1 l1.length c1] w fun e w' => e = .returned (.bool true) ∧ Below w.heap.size w w' := by
  obtain ⟨k, h⟩ := house_true h0 l1
  exact merinolaw01_NumHouse.calls k a0 A1 c1 l1 true w hr1 hc1 h
end Go.Proofs.Num

namespace Go.Proofs.YtdjnneflpkllmaaDoor.Num.NumHouse
open Go.ChangeShapes Go.WideShapes Go.ChangeAt Go.RowKit Go.Proofs.YtdjnneflpkllmaaDoor.Q Go.Proofs.YtdjnneflpkllmaaDoorW.PrintWords Go.Proofs.YtdjnneflpkllmaaDoorW.PrintLast Go.Proofs.YtdjnneflpkllmaaDoorW.PrintMore
set_option maxRecDepth 100000 in
theorem lifted (os : Os) (started : os.Started) (H : Type) (enc : TypeId × Value → H) :
    ReturnsInHanded {} Tryd.checked os 12 .any (fun w args => (Rows.numHouseSpec.pre enc Tryd.prog Tryd.f12 [] false w args ∧ laidMetH Tryd.prog laid3 w) ∧ sizedMet enc Tryd.prog Tryd.f12 (OpenSpec.ofChange Rows.numHouseSpec) false w args)
      (Rows.numHouseSpec.post enc Tryd.prog Tryd.f12 false true false false) := by
  refine returnsInHanded_of_change_and (C := Tryd.checked) (X := fun w _ => laidMetH Tryd.prog laid3 w) (fun _ _ _ hh h => h.of_heap hh) own started (by kernel_rfl) Tryd.func12
    (ChangeSpec.witness_shaped (enc := enc) (C := Tryd.checked) (os := os) (X := fun w _ => laidMetH Tryd.prog laid3 w) false (World.doorLaid Tryd.prog 400 os) #[.int .i64 0, .slice none 0 0] 8 rfl (door_shaped os _) (by kernel_rfl) (by kernel_rfl) (by kernel_rfl) (door_met os _)) ?_
  intro W base args ds gs before hval0 hW _ _ hL _
  have hval : ∀ (j : Nat) t v, Tryd.f12.params[j]? = some t → args[j]? = some v → Value.okWide Tryd.prog W .any base t v := hval0
  have hW' := hW
  obtain ⟨p, q, hA0, hV, rfl, hfz, hnd⟩ := hW
  have hA : DataW.TrodAll enc Tryd.prog W 0 (fun _ => true) true Tryd.f12.params.toList args.toList ds p := hA0
  rw [Tryd.params12] at hA hval
  obtain ⟨v0, vs0, d0, ds0, p0, q0, hargs, rfl, rfl, h0, r0⟩ := trodAll_cons hA
  obtain ⟨v1, vs1, d1, ds1, p1, q1, rfl, rfl, rfl, h1, r1⟩ := trodAll_cons r0
  obtain ⟨rfl, rfl, rfl⟩ := trodAll_nil r1
  obtain rfl : args = #[v0, v1] := by cases args; simp_all
  obtain ⟨rfl, rfl⟩ := trodVars_none hV
  obtain ⟨a0, rfl, rfl, rfl, wa0⟩ := open_int Tryd.underlying3 (hval 0 3 v0 rfl rfl) h0
  have ba0 := i64_bounds wa0
  obtain ⟨a1, len1, cap1, rfl⟩ := okWide_slice Tryd.underlying29 (hval 1 29 v1 rfl rfl)
  have k1 := h1
  have lt1 : ∀ x ∈ p1, x.block < W.heap.size := by obtain ⟨m, hm⟩ := k1; exact DataW.trod_lt m _ _ _ hm
  obtain ⟨l1, hl1, hr1, hc1, hb1⟩ : ∃ l1 : List Int, len1 = l1.length ∧ Kd.C (Kd.int .i64) W a1 l1.length l1 ∧ l1.length ≤ cap1 ∧ ∀ i, -9223372036854775808 ≤ Go.Proofs.Num.at_ l1 i ∧ Go.Proofs.Num.at_ l1 i ≤ 9223372036854775807 := by
    obtain ⟨fuel, hf⟩ := h1
    have w1 : ∃ z1 : List Int, (a1 = none ∧ len1 = 0 ∧ cap1 = 0 ∧ z1 = []) ∨ ∃ x, a1 = some x ∧ len1 ≤ cap1 ∧ cap1 ≤ maxLen ∧ z1.length = cap1 ∧ (∀ i, i < z1.length → W.cell? (x.add i) = some (.int .i64 (z1.getD i 0))) ∧ ∀ n ∈ z1, (Lit.int .i64 n).wf = true := by
      rcases open_ints Tryd.underlying29 Tryd.underlying3 (by kernel_rfl) hf with ⟨hcs, _⟩ | ⟨x, l, c, zs, hcs, _, hl, hm, hz, _, hcell, hwz⟩
      · injection hcs with hcs
        injection hcs with e1 e2 e3
        subst e1 e2 e3
        exact ⟨[], .inl ⟨rfl, rfl, rfl, rfl⟩⟩
      · injection hcs with hcs
        injection hcs with e1 e2 e3
        subst e1 e2 e3
        exact ⟨zs, .inr ⟨x, rfl, hl, hm, by simpa using hz, hcell, hwz⟩⟩
    obtain ⟨z1, w1⟩ := w1
    obtain ⟨l1, e, hr1, hm1, hw1, hc1⟩ := ReadsInt.ofRowC w1
    subst e
    refine ⟨l1, rfl, Kd.C_of_reads (d := (0 : Int)) (h1 := fun _ => rfl) hr1, hc1, fun i => ?_⟩
    rcases Nat.lt_or_ge i l1.length with hi | hi
    · have := i64_bounds (hw1 _ (List.getElem_mem hi))
      unfold Go.Proofs.Num.at_
      rw [List.getD_eq_getElem?_getD, List.getElem?_eq_getElem hi]
      exact this
    · unfold Go.Proofs.Num.at_
      rw [List.getD_eq_getElem?_getD, List.getElem?_eq_none hi]
      decide
  subst hl1
  clear hA0 hval0
  refine (Go.Proofs.Num.walk_NumHouse ba0.1 a1 cap1 l1 W hr1 hc1).mono fun e W' ⟨he, bel⟩ => ?_
  subst he
  exact ⟨_, rfl, _, _, _, [], _, [], hW', trodAll_mk1 (shut_bool Tryd.underlying4 _), (trodAll_cons_mk (shut_int Tryd.underlying3 wa0) (trodAll_cons_mk (Below.trod laidOut (by kernel_rfl) (of_decide_eq_true (by kernel_rfl)) k1 bel lt1) trodAll_mk0)), rfl, bel.frame _, fun h => by cases h⟩
theorem over : Rows.numHouseRow.holds Tryd.pinned (OpenSpec.ofChange Rows.numHouseSpec) :=
  OpenClaim.holds_of_wide 12 Tryd.f12 rfl rfl rfl rfl rfl rfl rfl ⟨rfl, rfl, rfl, rfl, rfl⟩ rfl rfl rfl rfl rfl (by kernel_rfl) Tryd.func12 (by kernel_rfl)
    (of_decide_eq_true (by kernel_rfl)) (by unfold Func.isWrapper; first | (rw [if_pos (by decide +kernel)]; kernel_rfl) | (rw [if_neg (by decide +kernel)]; exact ⟨rfl, rfl⟩))
    (fun os started H enc _ => lifted os started H enc)
theorem card : Rows.NumHouseCardSaid :=
  Claim7.holds_tied_plain_at .later [] [.data, .data, .data] true (true, "c4d784d3af0786ebba60338a2eb94c2ca72ce7bdba7b39204aca8207213a9cc5") false
    over (fun _ h => by cases h) (by kernel_rfl) (fun _ h => by cases h) numHouse_row_tie rfl ⟨rfl, rfl⟩ (by kernel_rfl) rfl
    (fun f fn hf hfn => by
      obtain rfl : f = 12 := Option.some.inj ((show Tryd.prog.funcNamed "merino/merinolaw01.NumHouse" = some 12 by kernel_rfl).symm.trans hf) |>.symm
      obtain rfl : fn = Tryd.f12 := (Option.some.inj (Tryd.func12.symm.trans hfn)).symm
      exact ⟨by kernel_rfl, fun j t ht => by
        rw [Tryd.params12] at ht
        have hm : t ∈ [3, 29] := by simpa using Array.mem_of_getElem? ht
        have hall : ([3, 29].all fun u => !Tryd.prog.wantsStandIn u) = true := by kernel_rfl
        exact (show Tryd.prog.wantsStandIn t = false by simpa using List.all_eq_true.1 hall t hm)⟩)
    (by kernel_rfl)
#print axioms card
end Go.Proofs.YtdjnneflpkllmaaDoor.Num.NumHouse
namespace Go.Proofs.YtdjnneflpkllmaaDoor
/-- The card, under a short name, for the claim. -/
theorem numHouse_card : Rows.NumHouseCardSaid := Num.NumHouse.card
end Go.Proofs.YtdjnneflpkllmaaDoor
